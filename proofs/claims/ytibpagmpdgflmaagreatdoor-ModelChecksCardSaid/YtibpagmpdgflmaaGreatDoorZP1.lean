/- The contracts of path.Parent and path.Join. The contract of path.Within. Plain laws of paths: a text is read as names, and names are told as a text. Conditions: none. -/
import Derived.Test.YtibpagmpdgflmaaGreatDoorZC4
import Derived.Deep.RegionHeld3
namespace Go.Proofs.YtibpagmpdgflmaaGreatDoor
open Go.RowKit

theorem right_len {x : List UInt8} (h : rightB x = true) : x.length ≤ 40 := by
  simp [rightB] at h; omega
theorem readN_cases (l : List (List UInt8)) : ((readN l).1 = 0 ∧ (readN l).2 = l ∧ l.length ≤ 16 ∧ l.all rightB = true) ∨ (((readN l).1 = 170 ∨ (readN l).1 = 160) ∧ (readN l).2 = []) := by
  unfold readN
  by_cases h1 : l.any List.isEmpty = true
  · rw [if_pos h1]; exact .inr ⟨.inl rfl, rfl⟩
  · rw [if_neg h1]
    by_cases h2 : 16 < l.length
    · rw [if_pos h2]; exact .inr ⟨.inl rfl, rfl⟩
    · rw [if_neg h2]
      by_cases h3 : l.all rightB = true
      · rw [if_pos h3]; exact .inl ⟨rfl, rfl, by omega, h3⟩
      · rw [if_neg h3]; exact .inr ⟨.inr rfl, rfl⟩
theorem readP_cases (s : List UInt8) : ((readP s).1 = 0 ∧ Fine (readP s).2 ∧ (readP s).2.all rightB = true) ∨ (((readP s).1 = 170 ∨ (readP s).1 = 160) ∧ (readP s).2 = []) := by
  unfold readP
  by_cases h0 : Lib.hasPrefix s [47] = true
  · rw [if_pos h0]
    unfold readR
    by_cases h1 : s.drop 1 = []
    · rw [if_pos h1]; exact .inl ⟨rfl, ⟨by simp, by simp⟩, rfl⟩
    · rw [if_neg h1]
      rcases readN_cases (splitL 47 (s.drop 1)) with ⟨e1, e2, e3, e4⟩ | h
      · exact .inl ⟨e1, by rw [e2]; exact ⟨e3, fun x hx => right_len (List.all_eq_true.1 e4 x hx)⟩, by rw [e2]; exact e4⟩
      · exact .inr h
  · rw [if_neg h0]; exact .inr ⟨.inl rfl, rfl⟩

/-- The last name. -/
def lastN (l : List (List UInt8)) : List UInt8 := l.getLastD []
/-- Parent's answer. -/
def parentP (s : List UInt8) : List UInt8 × List UInt8 × Int :=
  if (readP s).1 ≠ 0 then ([], [], (readP s).1) else if (readP s).2 = [] then ([], [], 5) else (textP ((readP s).2.take ((readP s).2.length - 1)), lastN (readP s).2, 0)
def ParentPost (s : ByteArray) (w : World) (e : Ending) (w' : World) : Prop :=
  e = .returned (.tuple #[.string (ofBytes (parentP (bytesOf s)).1), .string (ofBytes (parentP (bytesOf s)).2.1), .int .i64 (parentP (bytesOf s)).2.2]) ∧ Below w.heap.size w w'

/-- Join's answer. -/
def joinP (xs : List ByteArray) : List UInt8 × Int :=
  if rightN xs = 0 then (textP (xs.map bytesOf), 0) else ([], rightN xs)
def JoinPost (xs : List ByteArray) (w : World) (e : Ending) (w' : World) : Prop :=
  e = .returned (.tuple #[.string (ofBytes (joinP xs).1), .int .i64 (joinP xs).2]) ∧ Below w.heap.size w w'
theorem rightN_zero {xs : List ByteArray} (h : rightN xs = 0) : xs.length ≤ 16 ∧ xs.all rightS = true := by
  unfold rightN at h
  split at h
  · cases h
  · refine ⟨by omega, ?_⟩
    cases hb : xs.all rightS
    · rw [hb] at h; cases h
    · rfl

end Go.Proofs.YtibpagmpdgflmaaGreatDoor

namespace Go.Proofs.YtibpagmpdgflmaaGreatDoor
open Go.RowKit

/-- Is a path within another? -/
def withinN (a b : List (List UInt8)) : Bool := decide (b.length < a.length) && decide (a.take b.length = b)
def withinP (s t : List UInt8) : Bool × Int :=
  if (readP s).1 ≠ 0 then (false, (readP s).1) else if (readP t).1 ≠ 0 then (false, (readP t).1) else (withinN (readP s).2 (readP t).2, 0)
def WithinPost (s t : ByteArray) (w : World) (e : Ending) (w' : World) : Prop :=
  e = .returned (.tuple #[.bool (withinP (bytesOf s) (bytesOf t)).1, .int .i64 (withinP (bytesOf s) (bytesOf t)).2]) ∧ Below w.heap.size w w'

set_option maxRecDepth 100000 in
set_option maxHeartbeats 1000000 in
theorem within1_any (a b : List (List UInt8)) (A B : Option Addr) (n m c d p q : Nat) (w : World) (hn : a.length = n) (hm : b.length = m) (hnc : n ≤ c) (hc : c ≤ maxLen) (h : RowAt w A (a.map fun x => .string (ofBytes x))) (h' : RowAt w B (b.map fun x => .string (ofBytes x)))
    (hp : w.cell? ⟨p, 0, none⟩ = some (.slice A n c)) (hq : w.cell? ⟨q, 0, none⟩ = some (.slice B m d)) (hpl : p < w.heap.size) (hql : q < w.heap.size) :
    Calls Tryz.prog 177 #[.int .i64 m, .pointer (some ⟨p, 0, none⟩), .pointer (some ⟨q, 0, none⟩)] w fun e w' => e = .returned (.bool (withinN a b)) ∧ Below w.heap.size w w' := by
  unfold maxLen at hc
  by_cases hlt : m < n
  · have hd : decide ((m : Int) < (n : Int)) = true := by simp; omega
    have HE : Hid (withinN a b = eqL ((a.take m).map ofBytes) (b.map ofBytes)) := by
      rw [Hid, withinN, hn, hm, decide_eq_true hlt, Bool.true_and, eqL]
      congr 1
      rw [eq_iff_iff]
      exact ⟨fun e => by rw [e], fun e => by
        have := congrArg (List.map bytesOf) e
        rw [List.map_map, List.map_map] at this
        simpa [Function.comp_def, bytesOf_ofBytes] using this⟩
    have hlen : ((a.take m).map ofBytes).length = m := by rw [List.length_map, List.length_take, hn]; omega
    have hlen2 : (b.map ofBytes).length = m := by rw [List.length_map, hm]
    have hra : ∀ W, Below w.heap.size w W → RowAt W A (((a.take m).map ofBytes).map .string) := fun W hW => by
      have := (h.below hW).take m
      rw [← List.map_take] at this
      rw [List.map_map]; exact this
    have hrb : ∀ W, Below w.heap.size w W → RowAt W B ((b.map ofBytes).map .string) := fun W hW => by
      rw [List.map_map]; exact h'.below hW
    have HEQ : Hid (∀ W, Below w.heap.size w W → Calls Tryz.prog 178 #[.slice A m c, .slice B m d] W fun e W' => e = .returned (.bool (withinN a b)) ∧ Below W.heap.size W W') := fun W hW => by
      rw [HE.out]
      exact equal_any _ _ A B m m c d W hlen hlen2 (by unfold maxLen; omega) (hra W hW) (hrb W hW)
    have HKS : ∀ w2 : World, Below (w.drew).heap.size w.drew w2 → Hid (w2.cell? ⟨p, 0, none⟩ = some (.slice A n c) ∧ w2.cell? ⟨q, 0, none⟩ = some (.slice B m d)) := fun w2 hb2 =>
      ⟨(hb2.cell (p := ⟨p, 0, none⟩) hpl).trans hp, (hb2.cell (p := ⟨q, 0, none⟩) hql).trans hq⟩
    have hi0 : (0 : Int) ≤ (m : Int) := by omega
    have hi1 : (m : Int) ≤ (c : Int) := by omega
    clear h h' hlen hlen2 hra hrb hn hm
    go_enter Tryz.func177, Tryz.ntmps177
    go_wp2_with fail
    go_region_held3 (fun w1 => w1.cell? ⟨p, 0, none⟩ = some (.slice A n c) ∧ w1.cell? ⟨q, 0, none⟩ = some (.slice B m d))
      (first | exact (HKS _ hb2).out | go_keep)
      ((go_at_call 178; refine (HEQ.out _ ((Below.refl _ _).drew)).mono ?_; rintro e w2 ⟨rfl, hb2⟩))
    all_goals
      go_wp2_with fail
      go_ret
      exact ⟨rfl, below_trans (Below.refl _ _).drew hb2⟩
  · have HE : Hid (withinN a b = false) := by
      rw [Hid, withinN, hn, hm, decide_eq_false hlt]; rfl
    have hd : decide ((m : Int) < (n : Int)) = false := by simp; omega
    go_enter Tryz.func177, Tryz.ntmps177
    go_wp2_with fail
    go_quiet (fail)
    go_wp2_with fail
    go_ret
    exact ⟨by rw [HE.out]; rfl, by first | exact Below.refl _ _ | exact below_drewN (Below.refl _ _) _⟩

theorem readP_err {s : List UInt8} (h : (readP s).1 ≠ 0) : (readP s).2 = [] := by
  rcases readP_cases s with ⟨e, _⟩ | ⟨_, e⟩
  · exact absurd e h
  · exact e

set_option maxRecDepth 100000 in
set_option maxHeartbeats 1000000 in
theorem within_any (s t : ByteArray) (w : World) (hs : s.size < 4294967281) (ht : t.size < 4294967281) :
    Calls Tryz.prog 148 #[.string s, .string t] w (WithinPost s t w) := by
  have HC := Lib.hid (fun W => read_any s W hs)
  have HC2 := Lib.hid (fun W => read_any t W ht)
  have HP : Hid (withinP (bytesOf s) (bytesOf t) = if (readP (bytesOf s)).1 ≠ 0 then (false, (readP (bytesOf s)).1) else if (readP (bytesOf t)).1 ≠ 0 then (false, (readP (bytesOf t)).1) else (withinN (readP (bytesOf s)).2 (readP (bytesOf t)).2, 0)) := rfl
  unfold ReadPost at HC HC2
  generalize readP (bytesOf s) = rp at *
  generalize readP (bytesOf t) = rq at *
  obtain ⟨z, l⟩ := rp
  obtain ⟨z2, l2⟩ := rq
  simp only at HP HC HC2
  by_cases hz : z = 0
  · subst hz
    by_cases hz2 : z2 = 0
    · subst hz2
      have HPE : Hid (withinP (bytesOf s) (bytesOf t) = (withinN l l2, 0)) := by rw [Hid, HP.out]; simp
      go_enter Tryz.func148, Tryz.ntmps148
      go_wp2_with fail
      refine (HC.out _).mono ?_
      rintro e w' ⟨v, rfl, ⟨A, c, rfl, h1, h2, h3⟩, hb, _⟩
      have H3 := Lib.hid h3
      have HB := Lib.hid hb
      clear h3 hb
      go_wp2_with fail
      refine (HC2.out _).mono ?_
      rintro e w2 ⟨v, rfl, ⟨A2, c2, rfl, h21, h22, h23⟩, hb2, _⟩
      have H23 := Lib.hid h23
      obtain ⟨hc, hf⟩ := cells_after hb2
      have hz : w'.heap.size + 1 ≤ w2.heap.size := by have := hb2.size; simp at this; omega
      have hcp : w2.cell? ⟨w'.heap.size, 0, none⟩ = some (.slice A l.length c) := by rw [hc _ _ (by simp)]; simp
      have HB2 := Lib.hid hb2
      have H3b := Lib.hid ((H3.out.alloc (.cells #[.slice A l.length c] 222)).below hb2)
      clear h23 hb2 hc hf
      go_wp2_with fail
      refine (within1_any l l2 A A2 l.length l2.length c c2 w'.heap.size w2.heap.size _ rfl rfl h1 h2 (H3b.out.alloc _) (H23.out.alloc _) ?_ ?_ ?_ ?_).mono ?_
      · rw [World.cell?_alloc_lt _ _ _ (by show w'.heap.size < w2.heap.size; omega)]; exact hcp
      · simp
      · simp; omega
      · simp
      rintro e w3 ⟨rfl, hb3⟩
      go_wp2_with fail
      go_ret2
      exact ⟨by rw [HPE.out]; rfl, below_trans (below_trans (HB.out.alloc HB.out.size _) HB2.out |>.alloc (by have := HB.out.size; omega) _) hb3⟩
    · have hne : (z2 != 0) = true := by simpa using hz2
      have HPE : Hid (withinP (bytesOf s) (bytesOf t) = (false, z2)) := by rw [Hid, HP.out]; simp [hz2]
      clear hz2
      go_enter Tryz.func148, Tryz.ntmps148
      go_wp2_with fail
      refine (HC.out _).mono ?_
      rintro e w' ⟨v, rfl, ⟨A, c, rfl, h1, h2, h3⟩, hb, _⟩
      have H3 := Lib.hid h3
      have HB := Lib.hid hb
      clear h3 hb
      go_wp2_with fail
      refine (HC2.out _).mono ?_
      rintro e w2 ⟨v, rfl, ⟨A2, c2, rfl, h21, h22, h23⟩, hb2, _⟩
      have H23 := Lib.hid h23
      have HB2 := Lib.hid hb2
      have hz : w'.heap.size + 1 ≤ w2.heap.size := by have := hb2.size; simp at this; omega
      clear h23 hb2
      go_wp2_with fail
      go_ret2
      exact ⟨by rw [HPE.out]; rfl, (below_trans (HB.out.alloc HB.out.size _) HB2.out).alloc (by have := HB.out.size; omega) _⟩
  · have hne : (z != 0) = true := by simpa using hz
    have HPE : Hid (withinP (bytesOf s) (bytesOf t) = (false, z)) := by rw [Hid, HP.out]; simp [hz]
    clear hz
    go_enter Tryz.func148, Tryz.ntmps148
    go_wp2_with fail
    refine (HC.out _).mono ?_
    rintro e w' ⟨v, rfl, ⟨A, c, rfl, h1, h2, h3⟩, hb, _⟩
    have H3 := Lib.hid h3
    have HB := Lib.hid hb
    clear h3 hb
    go_wp2_with fail
    go_ret2
    exact ⟨by rw [HPE.out]; rfl, HB.out.alloc HB.out.size _⟩
end Go.Proofs.YtibpagmpdgflmaaGreatDoor

namespace Go.Proofs.YtibpagmpdgflmaaGreatDoor
open Go.RowKit

theorem rightB_mem {x : List UInt8} (h : rightB x = true) : x ≠ [] ∧ (47 : UInt8) ∉ x := by
  simp only [rightB, Bool.and_eq_true, decide_eq_true_eq, List.all_eq_true, Bool.not_eq_true'] at h
  refine ⟨fun e => by rw [e] at h; simp at h, fun hm => ?_⟩
  have h47 : okByte 47 = true := by
    first
      | exact h.2 47 hm
      | exact h.1.2 47 hm
      | exact h.2.2 47 hm
  exact absurd ((okByte_iff 47).1 h47).2.2 (by decide)
theorem joinL_ne (c : UInt8) {xs : List (List UInt8)} (h : xs ≠ []) (hx : ∀ x ∈ xs, x ≠ []) : joinL c xs ≠ [] := by
  cases xs with
  | nil => exact absurd rfl h
  | cons y ys =>
    have hy := hx y (by simp)
    cases ys with
    | nil => simpa [joinL] using hy
    | cons z zs => rw [joinL_cons _ _ (by simp)]; simp

/-- Names told as a text read as those names. -/
theorem readP_textP {xs : List (List UInt8)} (h16 : xs.length ≤ 16) (hr : xs.all rightB = true) : readP (textP xs) = (0, xs) := by
  have hm : ∀ x ∈ xs, x ≠ [] ∧ (47 : UInt8) ∉ x := fun x hx => rightB_mem (List.all_eq_true.1 hr x hx)
  have hp : Lib.hasPrefix (textP xs) [47] = true := by simp [Lib.hasPrefix, textP]
  have hd : (textP xs).drop 1 = joinL 47 xs := rfl
  rw [readP, if_pos hp, hd, readR]
  by_cases hx : xs = []
  · subst hx; rfl
  · rw [if_neg (joinL_ne 47 hx (fun x h => (hm x h).1)), split_joinL 47 hx (fun y hy => (hm y hy).2), readN]
    have he : xs.any List.isEmpty = false := by
      rw [List.any_eq_false]
      intro x h
      rw [List.isEmpty_iff]; exact (hm x h).1
    rw [he, if_neg (by simp), if_neg (by omega), if_pos hr]
/-- A text that reads as names is what they are told as. -/
theorem textP_readP {s : List UInt8} (h : (readP s).1 = 0) : textP (readP s).2 = s := by
  unfold readP at h ⊢
  by_cases hp : Lib.hasPrefix s [47] = true
  · rw [if_pos hp] at h ⊢
    have hs : s = 47 :: s.drop 1 := by
      cases s with
      | nil => simp [Lib.hasPrefix] at hp
      | cons x xs =>
        have : x = 47 := by
          have h' := hp
          simp [Lib.hasPrefix] at h'
          first
            | exact h'
            | exact h'.symm
        rw [this]; rfl
    unfold readR at h ⊢
    by_cases h1 : s.drop 1 = []
    · rw [if_pos h1]; rw [h1] at hs; rw [hs]; rfl
    · rw [if_neg h1] at h ⊢
      rcases readN_cases (splitL 47 (s.drop 1)) with ⟨_, e2, _⟩ | ⟨e1, _⟩
      · rw [e2, textP, joinL_split]; exact hs.symm
      · rw [h] at e1; exact absurd e1 (by decide)
  · rw [if_neg hp] at h; exact absurd h (by decide)
theorem readP_fine {s : List UInt8} (h : (readP s).1 = 0) : (readP s).2.length ≤ 16 ∧ (readP s).2.all rightB = true := by
  rcases readP_cases s with ⟨_, h2, h3⟩ | ⟨e1, _⟩
  · exact ⟨h2.1, h3⟩
  · rw [h] at e1; exact absurd e1 (by decide)
theorem readP_take {s : List UInt8} (h : (readP s).1 = 0) (k : Nat) : readP (textP ((readP s).2.take k)) = (0, (readP s).2.take k) := by
  obtain ⟨h1, h2⟩ := readP_fine h
  refine readP_textP (by rw [List.length_take]; omega) ?_
  rw [List.all_eq_true] at h2 ⊢
  exact fun x hx => h2 x (List.mem_of_mem_take hx)

theorem parentP_ok {s : List UInt8} (h : (parentP s).2.2 = 0) : (readP s).1 = 0 ∧ (readP s).2 ≠ [] ∧ (parentP s).1 = textP ((readP s).2.take ((readP s).2.length - 1)) ∧ (parentP s).2.1 = lastN (readP s).2 := by
  unfold parentP at h ⊢
  by_cases h1 : (readP s).1 ≠ 0
  · rw [if_pos h1] at h; exact absurd h h1
  · rw [if_neg h1] at h ⊢
    by_cases h2 : (readP s).2 = []
    · rw [if_pos h2] at h; exact absurd h (by decide)
    · rw [if_neg h2]; exact ⟨by omega, h2, rfl, rfl⟩
theorem names_last {l : List (List UInt8)} (h : l ≠ []) : l.take (l.length - 1) ++ [lastN l] = l := by
  have : l.take (l.length - 1) = l.dropLast := by rw [List.dropLast_eq_take]
  rw [this, lastN, List.getLastD_eq_getLast?, List.getLast?_eq_some_getLast h]
  exact List.dropLast_concat_getLast h

theorem withinN_iff {a b : List (List UInt8)} : withinN a b = true ↔ b.length < a.length ∧ a.take b.length = b := by
  simp [withinN]
theorem withinN_antisymm {a b : List (List UInt8)} (h : withinN a b = true) : withinN b a = false := by
  rw [withinN_iff] at h
  rw [Bool.eq_false_iff]; intro h2; rw [withinN_iff] at h2; omega
theorem withinN_trans {a b c : List (List UInt8)} (h : withinN a b = true) (k : withinN b c = true) : withinN a c = true := by
  rw [withinN_iff] at h k ⊢
  refine ⟨by omega, ?_⟩
  rw [← k.2, ← h.2, List.take_take, List.length_take]
  congr 1
  first
    | omega
    | (rw [h.2]; omega)
theorem withinN_take {a : List (List UInt8)} {k : Nat} (h : k < a.length) : withinN a (a.take k) = true := by
  rw [withinN_iff, List.length_take]
  exact ⟨by omega, by rw [Nat.min_eq_left (by omega)]⟩
theorem withinP_ok {s t : List UInt8} (h1 : (readP s).1 = 0) (h2 : (readP t).1 = 0) : withinP s t = (withinN (readP s).2 (readP t).2, 0) := by
  rw [withinP, if_neg (by omega), if_neg (by omega)]
theorem withinP_err {s t : List UInt8} : (withinP s t).2 = if (readP s).1 ≠ 0 then (readP s).1 else (readP t).1 := by
  unfold withinP
  by_cases h1 : (readP s).1 ≠ 0
  · rw [if_pos h1, if_pos h1]
  · rw [if_neg h1, if_neg h1]
    by_cases h2 : (readP t).1 ≠ 0
    · rw [if_pos h2]
    · rw [if_neg h2]; exact (Decidable.not_not.1 h2).symm

/-- Each of the beginnings is within all that follow. -/
theorem prefixes_within {s : List UInt8} (h : (readP s).1 = 0) {k : Nat} (hk : k < (readP s).2.length) :
    withinP (textP ((readP s).2.take (k + 1))) (textP ((readP s).2.take k)) = (true, 0) := by
  rw [withinP_ok (by rw [readP_take h]) (by rw [readP_take h]), readP_take h, readP_take h]
  refine Prod.ext ?_ rfl
  rw [withinN_iff, List.length_take, List.length_take, List.take_take]
  exact ⟨by omega, by congr 1; omega⟩
/-- A path is within its parent. -/
theorem within_parent {s : List UInt8} (h : (parentP s).2.2 = 0) : withinP s (parentP s).1 = (true, 0) := by
  obtain ⟨h1, h2, h3, _⟩ := parentP_ok h
  rw [h3, withinP_ok h1 (by rw [readP_take h1]), readP_take h1]
  refine Prod.ext ?_ rfl
  exact withinN_take (by have := List.length_pos_iff.2 h2; omega)
theorem split_parent {s : List UInt8} (h : (parentP s).2.2 = 0) : (readP (parentP s).1).1 = 0 ∧ (readP s).1 = 0 ∧ (readP s).2 = (readP (parentP s).1).2 ++ [(parentP s).2.1] := by
  obtain ⟨h1, h2, h3, h4⟩ := parentP_ok h
  rw [h3, readP_take h1, h4]
  exact ⟨rfl, h1, (names_last h2).symm⟩
end Go.Proofs.YtibpagmpdgflmaaGreatDoor
