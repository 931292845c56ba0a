/- The contracts of path.Split, Parent, Join, Within. Conditions: none. -/
import Derived.Test.YtdlblbhmeidhbaaGreatDoorZC3
namespace Go.Proofs.YtdlblbhmeidhbaaGreatDoor
open Go.RowKit

def SplitPPost (s : ByteArray) (w : World) (e : Ending) (w' : World) : Prop :=
  ∃ v, e = .returned (.tuple #[v, .int .i64 (readP (bytesOf s)).1]) ∧ PathAt w' v (readP (bytesOf s)).2 ∧ Below w.heap.size w w' ∧ Fresh w.heap.size v

theorem PathAt.below {w w' : World} {v : Value} {l : List (List UInt8)} (h : PathAt w v l) (hb : Below w.heap.size w w') : PathAt w' v l := by
  obtain ⟨A, c, h1, h2, h3, h4⟩ := h
  exact ⟨A, c, h1, h2, h3, h4.below hb⟩
theorem PathAt.alloc {w : World} {v : Value} {l : List (List UInt8)} (h : PathAt w v l) (o : Obj) : PathAt (w.alloc o) v l := h.below ((Below.refl _ _).alloc (Nat.le_refl _) _)

set_option maxRecDepth 100000 in
set_option maxHeartbeats 1000000 in
theorem psplit_any (s : ByteArray) (w : World) (hs : s.size < 4294967281) :
    Calls Tryz.prog 25 #[.string s] w (SplitPPost s w) := by
  have HC := Lib.hid (fun W => read_any s W hs)
  go_enter Tryz.func25, Tryz.ntmps25
  go_wp2_with fail
  refine (HC.out _).mono ?_
  rintro e w' ⟨v, rfl, hp, hb, hfr⟩
  have HFR := Lib.hid hfr
  clear hfr
  obtain ⟨A, c, rfl, h1, h2, h3⟩ := id hp
  have HP := Lib.hid hp
  have H3 := Lib.hid h3
  clear hp h3
  generalize hl : readP (bytesOf s) = rp at *
  have HL := Lib.hid hl
  clear hl
  go_wp2_with fail
  go_ret2
  exact ⟨.slice A rp.2.length c, by rw [HL.out]; rfl, by rw [HL.out]; exact HP.out.alloc _, hb.alloc hb.size _, HFR.out⟩

theorem bytesOf_append (a b : ByteArray) : bytesOf (a ++ b) = bytesOf a ++ bytesOf b := by
  unfold bytesOf; simp
/-- The path of names. -/
def textP (xs : List (List UInt8)) : List UInt8 := 47 :: joinL 47 xs

theorem joinL_length (c : UInt8) : ∀ l : List (List UInt8), (∀ x ∈ l, x.length ≤ 40) → (joinL c l).length ≤ 41 * l.length
  | [], _ => by simp [joinL]
  | [x], h => by have := h x (by simp); simp [joinL]; omega
  | x :: y :: ys, h => by
    rw [joinL_cons _ _ (by simp), List.length_append, List.length_cons, List.length_cons]
    have h1 := h x (by simp)
    have h2 := joinL_length c (y :: ys) (fun z hz => h z (by simp [hz]))
    rw [List.length_cons] at h2 ⊢
    omega
/-- Names of a path. -/
def Fine (xs : List (List UInt8)) : Prop := xs.length ≤ 16 ∧ ∀ x ∈ xs, x.length ≤ 40

set_option maxRecDepth 100000 in
set_option maxHeartbeats 1000000 in
theorem text_any (xs : List (List UInt8)) (A : Option Addr) (c n m : Nat) (w : World) (hl : xs.length = m) (hn : n ≤ m) (hc : m ≤ c) (_hcm : c ≤ maxLen) (hf : Fine xs) (h : RowAt w A (xs.map fun x => .string (ofBytes x))) :
    Calls Tryz.prog 24 #[.slice A m c, .int .i64 n] w fun e w' => e = .returned (.string (ofBytes (textP (xs.take n)))) ∧ Below w.heap.size w w' := by
  unfold maxLen at _hcm
  -- strings.Join: 45
  rcases Nat.eq_zero_or_pos n with h0 | h0
  · subst h0
    have HL := Lib.hid hl
    clear hl hf h
    have HJ := Lib.hid (fun (a : Option Addr) (c : Nat) (sep : ByteArray) (w : World) => Tryz.strings_Join_none a c sep w)
    go_enter Tryz.func24, Tryz.ntmps24
    go_wp2_with fail
    refine (HJ.out _ _ _ _).mono ?_
    rintro e w' ⟨rfl, rfl⟩
    go_wp2_with fail
    go_ret
    exact ⟨rfl, Below.refl _ _⟩
  · obtain ⟨b, off, rfl, hb, hcell⟩ := h (by rw [List.length_map]; omega)
    have hJ := Tryz.strings_Join b off n ((xs.take n).map ofBytes) ⟨#[47]⟩ w
      (fun j x hx => hcell j _ (by
        rw [List.getElem?_map, List.getElem?_take] at hx
        rw [List.getElem?_map]
        by_cases hj : j < n
        · rw [if_pos hj] at hx
          cases hxj : xs[j]? with
          | none => rw [hxj] at hx; cases hx
          | some y => rw [hxj] at hx; simp at hx; subst hx; rfl
        · rw [if_neg hj] at hx; cases hx)) hb
    have hlen : ((xs.take n).map ofBytes).length = n := by rw [List.length_map, List.length_take]; omega
    have hj : Lib.join (((xs.take n).map ofBytes).map (·.data.toList)) (⟨#[47]⟩ : ByteArray).data.toList = joinL 47 (xs.take n) := by
      unfold Lib.join
      rw [List.map_map]
      have : (List.map ((fun x : ByteArray => x.data.toList) ∘ ofBytes) (xs.take n)) = xs.take n := by
        conv => rhs; rw [← List.map_id (xs.take n)]
        rfl
      rw [this]
      exact intercalate_joinL 47 _
    have hjl := joinL_length 47 (xs.take n) (fun x hx => hf.2 x (List.mem_of_mem_take hx))
    have h16 := hf.1
    rw [hlen, hj] at hJ
    rw [List.length_take] at hjl
    have hJ2 := hJ (by omega) (Nat.le_refl _) (by omega)
    have hjs : (⟨(joinL 47 (xs.take n)).toArray⟩ : ByteArray).size ≤ 656 := by
      show (joinL 47 (xs.take n)).length ≤ 656
      omega
    have hje : Hid (bytesOf (⟨(joinL 47 (xs.take n)).toArray⟩ : ByteArray) = joinL 47 (xs.take n)) := rfl
    generalize (⟨(joinL 47 (xs.take n)).toArray⟩ : ByteArray) = j at *
    have HJ := Lib.hid hJ2
    clear hJ2
    clear hJ hj hlen hjl hcell hf
    have HL := Lib.hid hl
    clear hl
    go_enter Tryz.func24, Tryz.ntmps24
    go_wp2_with fail
    refine HJ.out.mono ?_
    rintro e w' ⟨rfl, hb'⟩
    go_wp2_with fail
    go_ret
    exact ⟨congrArg (fun x => Ending.returned (.string x)) (bytesOf_inj (by rw [bytesOf_ofBytes, textP, ← hje.out]; exact bytesOf_append _ _)), hb'⟩
end Go.Proofs.YtdlblbhmeidhbaaGreatDoor
