/- A drawn region inside a round: what reads only cells that stay may come first. Contracts of what packs bytes in words: the closure of word.Words, word.folded. Conditions: none. -/
import Derived.Test.YtibpagmpdgflmaaGreatDoorZK7
import Derived.OrdersIn
import Derived.Laws.BitsAllLaws
namespace Go.Proofs.YtibpagmpdgflmaaGreatDoor
open Go.RowKit Go.Shelf

section
variable {F : Fence} {n : Nat} {P : Program} {ops : Array Oper} {Q : Exit → Act → World → Prop} {md : Region.Mode} {S : World → Prop} {late : List Nat}

/-- No defer statement is among the operations. -/
def noDefers (ops : Array Oper) : Bool := ops.all fun o => match o.op with | .defer _ => false | _ => true
theorem noDefers_spec (h : noDefers ops = true) (j : Nat) (o : Oper) (hj : ops[j]? = some o) (c : Call) : o.op ≠ .defer c := by
  intro e
  have hm : o ∈ ops := Array.mem_of_getElem? hj
  have := (Array.all_eq_true'.1 h) o hm
  simp [e] at this

/-- In each world that meets S the operation gives v, asks nobody, changes nothing. -/
def Settled (P : Program) (ops : Array Oper) (S : World → Prop) (o : Oper) (v : Value) (a : Act) : Prop :=
  (Region.wanted o (yielded ops a.tmps) = true ∧ ∀ w, S w → (execOp a.eval o).run P w = .ok (.value v) w ∧ o.about P w a.eval = none) ∨
  (Region.wanted o (yielded ops a.tmps) = false ∧ v = undef ∧ ∀ w, o.about P w a.eval = none)

theorem Settled.run {i : Nat} {o : Oper} {v : Value} {a : Act} (hi : ops[i]? = some o) (hd : ∀ c, o.op ≠ .defer c) (hy : Settled P ops S o v a)
    {K : Act → World → Prop} {w : World} (hS : S w) (h : K (a.put o.dst v) w) : wpOpIn F n P ops Q i K a w := by
  unfold Go.wpOpIn
  simp only [hi]
  rcases hy with ⟨hw, hv⟩ | ⟨hw, rfl, hv⟩
  · simp only [hw, if_true, Oper.wpIn, Oper.semAt_plain F _ _ hd, (hv w hS).1, Oper.uponIn]
    exact ⟨fun f hf => by (rw [(hv w hS).2] at hf; cases hf), h⟩
  · simp only [hw, Bool.false_eq_true, if_false]
    exact ⟨fun f hf => by (rw [hv w] at hf; cases hf), h⟩

theorem Settled.same {o : Oper} {v : Value} {a a' : Act} (hy : Settled P ops S o v a) (he : execOp a'.eval o = execOp a.eval o)
    (hw : Region.wanted o (yielded ops a'.tmps) = Region.wanted o (yielded ops a.tmps)) (hb : ∀ w, o.about P w a'.eval = o.about P w a.eval) : Settled P ops S o v a' := by
  unfold Settled at *
  simp only [he, hw, hb]
  exact hy

theorem settled_beside {j : Nat} {oi oj : Oper} {v : Value} (hj : ops[j]? = some oj) (hap : oi.apart ops oj = true)
    (hsi : ∀ cs b, oi.op ≠ .select cs b) (hsj : ∀ cs b, oj.op ≠ .select cs b) (hdj : ∀ c, oj.op ≠ .defer c)
    (hQ : ∀ c a w, Q (.panic c) (a.put oi.dst v) w → Q (.panic c) a w) {K : Act → World → Prop} {a : Act} {w : World}
    (hy : Settled P ops S oi v a) (h : wpOpIn F n P ops Q j K (a.put oi.dst v) w) :
    wpOpIn F n P ops Q j (fun a' w' => Settled P ops S oi v a' ∧ K (a'.put oi.dst v) w') a w := by
  obtain ⟨h1, h2, h3⟩ := Oper.apart_spec hap
  have keep : ∀ u, Settled P ops S oi v (a.put oj.dst u) := fun u =>
    hy.same (execOp_put oi hsi a oj.dst u h3) (wanted_put oi a oj.dst u h3) (fun w => about_put oi w a oj.dst u h3)
  unfold wpOpIn at *
  simp only [hj] at *
  rw [wanted_put oj a oi.dst v h1, about_put oj w a oi.dst v h1] at h
  by_cases hw : Region.wanted oj (yielded ops a.tmps) = true
  · rw [if_pos hw] at h ⊢
    unfold Oper.wpIn at *
    rw [about_put oj w a oi.dst v h1, Oper.semAt_plain F _ _ hdj, execOp_put oj hsj a oi.dst v h1] at h
    rw [Oper.semAt_plain F _ _ hdj]
    refine ⟨h.1, ?_⟩
    replace h := h.2
    generalize hr : (execOp a.eval oj).run P w = r at *
    have hnd : ∀ d w', r ≠ .ok (.defer d) w' ∨ ∃ u w'', K u w'' ∨ True := fun _ _ => .inr ⟨a, w, .inr trivial⟩
    cases r with
    | ok x w' =>
      cases x <;> simp only [Oper.uponIn] at h ⊢
      case value u => exact ⟨keep u, by rw [← Act.put_comm a v u h2]; exact h⟩
      case skip => exact ⟨keep _, by rw [← Act.put_comm a v undef h2]; exact h⟩
      case defer d =>
        refine ⟨(Settled.same hy ?_ ?_ ?_ : Settled P ops S oi v { a with defers := d :: a.defers }).same ?_ ?_ ?_, ?_⟩
        · rfl
        · rfl
        · intro _; rfl
        · exact execOp_put oi hsi _ oj.dst _ h3
        · exact wanted_put oi _ oj.dst _ h3
        · exact fun w => about_put oi w _ oj.dst _ h3
        · rw [← Act.put_comm _ v undef h2, ← Act.put_defers]; exact h
      case enter f args =>
        refine ⟨h.1, CallsIn.mono h.2 fun e w'' he => ?_⟩
        cases e with
        | returned u => exact ⟨keep u, by rw [← Act.put_comm a v u h2]; exact he⟩
        | panicked c => exact hQ _ _ _ he
        | outgrown => exact he
      case row row args => exact ⟨h.1, RowsIn.mono h.2 fun u w'' he => ⟨keep u, by rw [← Act.put_comm a v u h2]; exact he⟩⟩
      case round l f tmps assign body =>
        refine ⟨h.1, RoundIn.mono h.2 fun e w'' he => ?_⟩
        cases e with
        | returned u => exact ⟨keep u, by rw [← Act.put_comm a v u h2]; exact he⟩
        | panicked c => exact hQ _ _ _ he
        | outgrown => exact he
    | halt x w' =>
      cases x <;> simp only [Oper.uponIn] at h ⊢
      case panic u => exact hQ _ _ _ h
  · rw [if_neg hw] at h ⊢
    exact ⟨h.1, keep _, by rw [← Act.put_comm a v undef h2]; exact h.2⟩

variable (F n P ops Q md S late) in
/-- Whichever order comes, with S behind each step but the late ones. -/
def Whichever : Nat → Array Bool → Act → World → Prop
  | 0, l, a, w => Region.ready md ops l = [] ∧ Q .normal a w
  | f + 1, l, a, w => (Region.ready md ops l = [] → Q .normal a w) ∧
      ∀ i ∈ Region.ready md ops l, wpOpIn F n P ops Q i (fun a' w' => (i ∉ late → S w') ∧ Whichever f (l.setIfInBounds i true) a' w') a w

theorem whichever_any : ∀ (f : Nat) (l : Array Bool) (a : Act) (w : World), Whichever F n P ops Q md S late f l a w → wpAnyIn F n P md ops Q f l a w
  | 0, _, _, _, h => h
  | f + 1, _, _, _, h => ⟨h.1, fun i hi => wpOpIn_mono (fun a' w' h' => whichever_any f _ a' w' h'.2) (h.2 i hi)⟩

theorem whichever_first {i : Nat} {oi : Oper} {v : Value} (hi : ops[i]? = some oi) (hsel : ∀ (j : Nat) (o : Oper) cs b, ops[j]? = some o → o.op ≠ .select cs b)
    (hnd : noDefers ops = true) (hQ : ∀ c a w, Q (.panic c) (a.put oi.dst v) w → Q (.panic c) a w)
    {B : List Nat} (hlate : ∀ j ∈ late, j ∈ B) (hB : ∀ b ∈ B, ∀ o, ops[b]? = some o → ∃ e ∈ o.after, Region.binds md e = true ∧ (e.on = i ∨ e.on ∈ B)) :
    ∀ (f : Nat) (l : Array Bool) (a : Act) (w : World),
      (∀ j oj, ops[j]? = some oj → j ≠ i → l.getD j true = false → (∀ e ∈ oj.after, Region.binds md e = true → e.on ≠ i) → oi.apart ops oj = true) →
      i ∈ Region.ready md ops l → (∀ b ∈ B, l.getD b true = false) → Settled P ops S oi v a → S w →
      Whichever F n P ops Q md S late f (l.setIfInBounds i true) (a.put oi.dst v) w → Whichever F n P ops Q md S late (f + 1) l a w := by
  intro f
  induction f with
  | zero =>
    intro l a w _ hr _ hy hS H
    refine ⟨fun h => (by rw [h] at hr; cases hr), fun j hj => ?_⟩
    by_cases hji : j = i
    · subst hji
      exact hy.run hi (noDefers_spec hnd _ _ hi) hS ⟨fun _ => hS, H⟩
    · have h1 := ready_mono hj hji
      rw [H.1] at h1
      cases h1
  | succ f ih =>
    intro l a w hfree hr hbl hy hS H
    refine ⟨fun h => (by rw [h] at hr; cases hr), fun j hj => ?_⟩
    by_cases hji : j = i
    · subst hji
      exact hy.run hi (noDefers_spec hnd _ _ hi) hS ⟨fun _ => hS, H⟩
    · have h1 := H.2 j (ready_mono hj hji)
      obtain ⟨hjun, oj, hoj, hall⟩ := mem_ready.1 hj
      have hnot : ∀ e ∈ oj.after, Region.binds md e = true → e.on ≠ i := fun e he hb heq => by
        have h1 := hall e he hb
        have h0 := (mem_ready.1 hr).1
        rw [heq] at h1
        rcases Nat.lt_or_ge i l.size with h' | h'
        · simp [h'] at h0 h1; rw [h0] at h1; cases h1
        · simp [Array.getElem?_eq_none h'] at h1
      have hwait : ∀ e ∈ oj.after, Region.binds md e = true → l.getD e.on true = true := fun e he hb => by
        have h1 := hall e he hb
        rcases Nat.lt_or_ge e.on l.size with h' | h'
        · simp [h'] at h1 ⊢; exact h1
        · simp [Array.getElem?_eq_none h'] at h1
      have hjB : j ∉ B := fun hm => by
        obtain ⟨e, he, hb, ho⟩ := hB j hm oj hoj
        rcases ho with ho | ho
        · exact hnot e he hb ho
        · have h1 := hwait e he hb
          rw [hbl _ ho] at h1
          cases h1
      have hbl' : ∀ b ∈ B, (l.setIfInBounds j true).getD b true = false := fun b hb => by
        rw [getD_set_ne true (fun e => hjB (by rw [e]; exact hb))]
        exact hbl b hb
      have h2 := settled_beside hoj (hfree j oj hoj hji hjun hnot) (fun cs b => hsel i oi cs b hi) (fun cs b => hsel j oj cs b hoj) (noDefers_spec hnd _ _ hoj) hQ hy h1
      have hfree' : ∀ k ok, ops[k]? = some ok → k ≠ i → (l.setIfInBounds j true).getD k true = false →
          (∀ e ∈ ok.after, Region.binds md e = true → e.on ≠ i) → oi.apart ops ok = true := fun k ok hk hki hun hno => by
        refine hfree k ok hk hki ?_ hno
        by_cases hjk : j = k
        · subst hjk; exact hjun
        · rw [getD_set_ne true hjk] at hun; exact hun
      refine wpOpIn_mono (fun a' w' h3 => ⟨h3.2.1, ih (l.setIfInBounds j true) a' w' hfree' (ready_mono hr (Ne.symm hji)) hbl' h3.1 (h3.2.1 (fun hm => hjB (hlate j hm))) ?_⟩) h2
      rw [Array.setIfInBounds_comm _ _ hji]
      exact h3.2.2

/-- The operations of B wait for i, one by another, and have not come. -/
def waits (md : Region.Mode) (ops : Array Oper) (l : Array Bool) (late : List Nat) (i : Nat) (B : List Nat) : Bool :=
  late.all (B.contains ·) && B.all fun b => !(l.getD b true) && ((ops[b]?.map fun o => o.after.any fun e => Region.binds md e && (e.on == i || B.contains e.on)).getD true)
theorem waits_spec {l : Array Bool} {i : Nat} {B : List Nat} (h : waits md ops l late i B = true) :
    (∀ j ∈ late, j ∈ B) ∧ (∀ b ∈ B, ∀ o, ops[b]? = some o → ∃ e ∈ o.after, Region.binds md e = true ∧ (e.on = i ∨ e.on ∈ B)) ∧ ∀ b ∈ B, l.getD b true = false := by
  unfold waits at h
  rw [Bool.and_eq_true] at h
  obtain ⟨h1, h2⟩ := h
  rw [List.all_eq_true] at h1 h2
  refine ⟨fun j hj => by simpa using h1 j hj, fun b hb o ho => ?_, fun b hb => ?_⟩
  · have h3 := h2 b hb
    rw [Bool.and_eq_true, ho] at h3
    have h4 := h3.2
    simp only [Option.map_some, Option.getD_some, Array.any_eq_true] at h4
    obtain ⟨k, hk, h4⟩ := h4
    rw [Bool.and_eq_true, Bool.or_eq_true] at h4
    exact ⟨_, Array.getElem_mem hk, h4.1, by simpa using h4.2⟩
  · have h3 := h2 b hb
    rw [Bool.and_eq_true] at h3
    simpa using h3.1

/-- Operation i comes first. -/
theorem whichever_take (i : Nat) (v : Value) (B : List Nat) {oi : Oper} {f : Nat} {l : Array Bool} {a : Act} {w : World} (hi : ops[i]? = some oi)
    (hs : (Region.noSelect ops && noDefers ops && Region.free md ops l i && (Region.ready md ops l).contains i && waits md ops l late i B) = true)
    (hQ : ∀ c a w, Q (.panic c) (a.put oi.dst v) w → Q (.panic c) a w) (hS : S w) (hw : Region.wanted oi (yielded ops a.tmps) = true)
    (hy : ∀ w, S w → (execOp a.eval oi).run P w = .ok (.value v) w ∧ oi.about P w a.eval = none)
    (h : Whichever F n P ops Q md S late f (l.setIfInBounds i true) (a.put oi.dst v) w) : Whichever F n P ops Q md S late (f + 1) l a w := by
  simp only [Bool.and_eq_true] at hs
  obtain ⟨⟨⟨⟨hs1, hs2⟩, hs3⟩, hs4⟩, hs5⟩ := hs
  obtain ⟨h1, h2, h3⟩ := waits_spec hs5
  exact whichever_first hi (Region.noSelect_spec hs1) hs2 hQ h1 h2 f l a w (Region.free_spec hi hs3) (by simpa using hs4) h3 (.inl ⟨hw, hy⟩) hS h

/-- An operation that is not carried out comes first. -/
theorem whichever_pass (i : Nat) (B : List Nat) {oi : Oper} {f : Nat} {l : Array Bool} {a : Act} {w : World} (hi : ops[i]? = some oi)
    (hs : (Region.noSelect ops && noDefers ops && Region.free md ops l i && (Region.ready md ops l).contains i && waits md ops l late i B) = true)
    (hQ : ∀ c a w, Q (.panic c) (a.put oi.dst undef) w → Q (.panic c) a w) (hS : S w) (hw : Region.wanted oi (yielded ops a.tmps) = false)
    (hy : ∀ w, oi.about P w a.eval = none)
    (h : Whichever F n P ops Q md S late f (l.setIfInBounds i true) (a.put oi.dst undef) w) : Whichever F n P ops Q md S late (f + 1) l a w := by
  simp only [Bool.and_eq_true] at hs
  obtain ⟨⟨⟨⟨hs1, hs2⟩, hs3⟩, hs4⟩, hs5⟩ := hs
  obtain ⟨h1, h2, h3⟩ := waits_spec hs5
  exact whichever_first hi (Region.noSelect_spec hs1) hs2 hQ h1 h2 f l a w (Region.free_spec hi hs3) (by simpa using hs4) h3 (.inr ⟨hw, rfl, hy⟩) hS h

/-- Operation i alone may come. -/
theorem whichever_next (i : Nat) {oi : Oper} {f : Nat} {l : Array Bool} {a : Act} {w : World} (hi : ops[i]? = some oi) (hr : Region.ready md ops l = [i])
    (hw : Region.wanted oi (yielded ops a.tmps) = true)
    (h : oi.wpIn F n P a w (fun a' w' => (i ∉ late → S w') ∧ Whichever F n P ops Q md S late f (l.setIfInBounds i true) a' w') Q) : Whichever F n P ops Q md S late (f + 1) l a w := by
  refine ⟨fun e => (by rw [hr] at e; cases e), fun j hj => ?_⟩
  rw [hr, List.mem_singleton] at hj
  subst hj
  unfold wpOpIn
  simp only [hi, hw, if_true]
  exact h

theorem whichever_end {f : Nat} {l : Array Bool} {a : Act} {w : World} (hr : Region.ready md ops l = []) (h : Q .normal a w) : Whichever F n P ops Q md S late f l a w := by
  cases f with
  | zero => exact ⟨hr, h⟩
  | succ f => exact ⟨fun _ => h, by rw [hr]; simp⟩

theorem whichever_region (S : World → Prop) (late : List Nat) {id : Nat} {a : Act} {w : World} (hm : P.follows .mixedOrders = true)
    (h : Whichever F n P ops Q .any S late ops.size (Array.replicate ops.size false) a w.drew) : (Code.region id ops true).wpIn F n P Q a w :=
  wpIn_region_any hm (whichever_any _ _ _ _ h)
end
end Go.Proofs.YtibpagmpdgflmaaGreatDoor

namespace Go.Proofs.YtibpagmpdgflmaaGreatDoor
open Go.RowKit
attribute [local go_sem] Oper.semAt_some

/-- Bytes as a number, the first one lowest. -/
def leN : List UInt8 → Nat
  | [] => 0
  | b :: bs => b.toNat + 256 * leN bs
theorem leN_lt : ∀ l : List UInt8, leN l < 256 ^ l.length
  | [] => by simp [leN]
  | b :: bs => by
    have h1 := leN_lt bs
    have h2 := b.toNat_lt
    rw [leN, List.length_cons, Nat.pow_succ]
    omega
theorem leN_le {l : List UInt8} {k : Nat} (h : l.length ≤ k) : leN l < 256 ^ k := Nat.lt_of_lt_of_le (leN_lt l) (Nat.pow_le_pow_right (by decide) h)
/-- A byte as a value. -/
def encB (c : UInt8) : Value := .int .u8 (c.toNat : Nat)

theorem or_pack (a d : Nat) (ha : a < 72057594037927936) (hd : d < 256) : bits .or .u64 ((a : Int) * 256) (d : Int) = ((d + 256 * a : Nat) : Int) := by
  have e : ((a : Int) * 256) = ((a * 256 : Nat) : Int) := by simp
  rw [e, u64_or_nat _ _ (by omega) (by omega)]
  have := Nat.shiftLeft_add_eq_or_of_lt (show d < 2 ^ 8 from hd) a
  rw [Nat.shiftLeft_eq] at this
  rw [← this, Nat.add_comm, Nat.mul_comm a]

end Go.Proofs.YtibpagmpdgflmaaGreatDoor
