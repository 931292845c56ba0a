/- The contract of the document's answer for words of bytes. Conditions: none. -/
import Derived.Test.YtdlblbhmeidhbaaDoorZP6
import Derived.Laws.AppendOwn
import Derived.Laws.OwnMore
import Derived.Deep.AppendLies
import Derived.StillTailTactics
namespace Go.Proofs.YtdlblbhmeidhbaaDoor
open Go.RowKit

theorem Tryd.infoU64 : (Tryd.prog.info? 38).map (fun i => (i.zero, i.size, i.bytes)) = some (some (.int .u64 0), 1, 8) := by kernel_rfl
theorem Tryd.underlyingU64s : Tryd.prog.underlying 22 = some (.slice 38) := by kernel_rfl
theorem map_set_encW (l : List Nat) (k a : Nat) : (l.set k a).map encW = (l.map encW).set k (encW a) := List.map_set
theorem owns_below {w w' : World} {base : Nat} {e : TypeId} {size : Nat} {v : Value} {n : Nat} {xs : List Value} (h : w.ownsRow base e size v n xs) (hb : Below w.heap.size w w') : w'.ownsRow base e size v n xs := by
  refine ⟨h.1, ?_⟩
  rcases h.2 with h0 | ⟨g, cap, cur, hv, hbase, hg, rest⟩
  · exact .inl h0
  · exact .inr ⟨g, cap, cur, hv, hbase, (hb.block g (Array.getElem?_eq_some_iff.1 hg).1).trans hg, rest⟩
theorem row_of_own {w : World} {base : Nat} {e : TypeId} {A : Option Addr} {n c : Nat} {xs : List Value} (h : w.ownsRow base e 1 (.slice A n c) n xs) : RowAt w A xs := fun hn => by
  have hx := h.1
  obtain ⟨g, cap, hv, _, hlt⟩ := h.form (by omega)
  injection hv with hA _ hc
  subst hA; subst hc
  refine ⟨g, 0, rfl, hlt, fun k u hu => ?_⟩
  have := (List.getElem?_eq_some_iff.1 hu).1
  rw [Nat.zero_add, h.cellAt k (by omega)]; exact hu

theorem set_self {l : List Nat} {i x : Nat} (h : l.getD i 0 = x) (hi : i < l.length) : l.set i x = l := by
  apply List.ext_getElem?
  intro k
  rw [List.getElem?_set]
  by_cases hk : i = k
  · subst hk
    rw [if_pos rfl, if_pos hi, ← h, List.getD_eq_getElem?_getD, List.getElem?_eq_getElem hi]; rfl
  · rw [if_neg hk]
theorem owns_set {w : World} {base : Nat} {e : TypeId} {g n cap : Nat} {l : List Nat} (h : w.ownsRow base e 1 (.slice (some ⟨g, 0, none⟩) n cap) n (l.map encW)) (j a : Nat) :
    (w.setCell ⟨g, j, none⟩ (.int .u64 a)).ownsRow base e 1 (.slice (some ⟨g, 0, none⟩) n cap) n ((l.set j a).map encW) := by
  have := h.stored j (.int .u64 a)
  rw [map_set_encW]; exact this.1

end Go.Proofs.YtdlblbhmeidhbaaDoor
