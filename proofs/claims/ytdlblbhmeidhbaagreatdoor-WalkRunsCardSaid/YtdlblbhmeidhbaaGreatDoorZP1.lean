/- The contracts of path.Parent and path.Join. The contract of path.Within. Plain laws of paths: a text is read as names, and names are told as a text. Conditions: none. -/
import Derived.Test.YtdlblbhmeidhbaaGreatDoorZC4
import Derived.Deep.RegionHeld3
namespace Go.Proofs.YtdlblbhmeidhbaaGreatDoor
open Go.RowKit

theorem right_len {x : List UInt8} (h : rightB x = true) : x.length ≤ 40 := by
  simp [rightB] at h; omega
theorem readN_cases (l : List (List UInt8)) : ((readN l).1 = 0 ∧ (readN l).2 = l ∧ l.length ≤ 16 ∧ l.all rightB = true) ∨ (((readN l).1 = 170 ∨ (readN l).1 = 160) ∧ (readN l).2 = []) := by
  unfold readN
  by_cases h1 : l.any List.isEmpty = true
  · rw [if_pos h1]; exact .inr ⟨.inl rfl, rfl⟩
  · rw [if_neg h1]
    by_cases h2 : 16 < l.length
    · rw [if_pos h2]; exact .inr ⟨.inl rfl, rfl⟩
    · rw [if_neg h2]
      by_cases h3 : l.all rightB = true
      · rw [if_pos h3]; exact .inl ⟨rfl, rfl, by omega, h3⟩
      · rw [if_neg h3]; exact .inr ⟨.inr rfl, rfl⟩
theorem readP_cases (s : List UInt8) : ((readP s).1 = 0 ∧ Fine (readP s).2 ∧ (readP s).2.all rightB = true) ∨ (((readP s).1 = 170 ∨ (readP s).1 = 160) ∧ (readP s).2 = []) := by
  unfold readP
  by_cases h0 : Lib.hasPrefix s [47] = true
  · rw [if_pos h0]
    unfold readR
    by_cases h1 : s.drop 1 = []
    · rw [if_pos h1]; exact .inl ⟨rfl, ⟨by simp, by simp⟩, rfl⟩
    · rw [if_neg h1]
      rcases readN_cases (splitL 47 (s.drop 1)) with ⟨e1, e2, e3, e4⟩ | h
      · exact .inl ⟨e1, by rw [e2]; exact ⟨e3, fun x hx => right_len (List.all_eq_true.1 e4 x hx)⟩, by rw [e2]; exact e4⟩
      · exact .inr h
  · rw [if_neg h0]; exact .inr ⟨.inl rfl, rfl⟩

/-- The last name. -/
def lastN (l : List (List UInt8)) : List UInt8 := l.getLastD []
/-- Parent's answer. -/
def parentP (s : List UInt8) : List UInt8 × List UInt8 × Int :=
  if (readP s).1 ≠ 0 then ([], [], (readP s).1) else if (readP s).2 = [] then ([], [], 5) else (textP ((readP s).2.take ((readP s).2.length - 1)), lastN (readP s).2, 0)
def ParentPost (s : ByteArray) (w : World) (e : Ending) (w' : World) : Prop :=
  e = .returned (.tuple #[.string (ofBytes (parentP (bytesOf s)).1), .string (ofBytes (parentP (bytesOf s)).2.1), .int .i64 (parentP (bytesOf s)).2.2]) ∧ Below w.heap.size w w'

set_option maxRecDepth 100000 in
set_option maxHeartbeats 1000000 in
theorem parent_any (s : ByteArray) (w : World) (hs : s.size < 4294967281) :
    Calls Tryz.prog 14 #[.string s] w (ParentPost s w) := by
  have HC := Lib.hid (fun W => read_any s W hs)
  have hcs := readP_cases (bytesOf s)
  have HP : Hid (parentP (bytesOf s) = if (readP (bytesOf s)).1 ≠ 0 then ([], [], (readP (bytesOf s)).1) else if (readP (bytesOf s)).2 = [] then ([], [], 5) else (textP ((readP (bytesOf s)).2.take ((readP (bytesOf s)).2.length - 1)), lastN (readP (bytesOf s)).2, 0)) := rfl
  unfold ReadPost at HC
  generalize readP (bytesOf s) = rp at *
  obtain ⟨z, l⟩ := rp
  simp only at hcs HP HC
  have HCS := Lib.hid hcs
  clear hcs
  have hq : (z != 0) = true ∧ l = [] ∨ z = 0 ∧ l = [] ∨ z = 0 ∧ 0 < l.length ∧ Fine l := by
    rcases HCS.out with ⟨e1, e2, _⟩ | ⟨e1, e2⟩
    · cases l with
      | nil => exact .inr (.inl ⟨e1, rfl⟩)
      | cons y ys => exact .inr (.inr ⟨e1, by simp, e2⟩)
    · exact .inl ⟨by rw [bne_iff_ne]; omega, e2⟩
  rcases hq with ⟨hz, rfl⟩ | ⟨rfl, rfl⟩ | ⟨rfl, hl, hf⟩
  · go_enter Tryz.func14, Tryz.ntmps14
    go_wp2_with fail
    refine (HC.out _).mono ?_
    rintro e w' ⟨v, rfl, ⟨A, c, rfl, h1, h2, h3⟩, hb, _⟩
    have H3 := Lib.hid h3
    clear h3
    go_wp2_with fail
    go_ret3
    exact ⟨by rw [HP.out, if_pos (by simpa using hz)]; rfl, hb.alloc hb.size _⟩
  · have HPE : Hid (parentP (bytesOf s) = ([], [], 5)) := by rw [Hid, HP.out]; simp
    go_enter Tryz.func14, Tryz.ntmps14
    go_wp2_with fail
    refine (HC.out _).mono ?_
    rintro e w' ⟨v, rfl, ⟨A, c, rfl, h1, h2, h3⟩, hb, _⟩
    have H3 := Lib.hid h3
    clear h3
    go_wp2_with fail
    go_ret3
    exact ⟨by rw [HPE.out]; rfl, hb.alloc hb.size _⟩
  · have hf1 := hf.1
    have HF := Lib.hid hf
    clear hf
    go_enter Tryz.func14, Tryz.ntmps14
    go_wp2_with fail
    refine (HC.out _).mono ?_
    rintro e w' ⟨v, rfl, ⟨A, c, rfl, h1, h2, h3⟩, hb, _⟩
    obtain ⟨b, off, rfl, hbl, hcl⟩ := id (h3 (by rw [List.length_map]; exact hl))
    have H3 := Lib.hid h3
    have HCL := Lib.hid hcl
    clear h3 hcl
    have HPE : Hid (parentP (bytesOf s) = (textP (l.take (l.length - 1)), lastN l, 0)) := by
      rw [Hid, HP.out, if_neg (by simp), if_neg (fun e => by rw [e] at hl; simp at hl)]
    have hm : ∃ m : Nat, Hid (l.length = m) ∧ 0 < m ∧ m ≤ 16 := ⟨_, rfl, hl, hf1⟩
    obtain ⟨m, HM, hm0, hm16⟩ := hm
    rw [HM.out] at h1 HPE ⊢
    clear hf1 hl
    obtain ⟨q, hq, hq1⟩ : ∃ q : Nat, (m : Int) - 1 = (q : Int) ∧ m - 1 = q := ⟨m - 1, by omega, rfl⟩
    rw [hq1] at HPE
    have hlast : w'.cell? ⟨b, off + q, none⟩ = some (.string (ofBytes (lastN l))) := by
      refine HCL.out q _ ?_
      rw [lastN, List.getElem?_map, List.getLastD_eq_getLast?, List.getLast?_eq_getElem?, HM.out, hq1]
      rw [List.getElem?_eq_getElem (by rw [HM.out]; omega)]; rfl
    have HLA := Lib.hid hlast
    have hlx : Hid (∀ (W : World) (hb : Below w'.heap.size w' W), Calls Tryz.prog 24 #[.slice (some ⟨b, off, none⟩) m c, .int .i64 q] W fun e W' => e = .returned (.string (ofBytes (textP (l.take q)))) ∧ Below W.heap.size W W') := fun W hbW =>
      text_any l (some ⟨b, off, none⟩) c q m W HM.out (by omega) h1 h2 HF.out (H3.out.below hbW)
    have hi0 : (0 : Int) ≤ (q : Int) := by omega
    have hi1 : (q : Int) < (m : Int) := by omega
    clear hlast hq1
    go_wp2_with fail
    have hlast2 : (w'.alloc (.cells #[.slice (some ⟨b, off, none⟩) m c] 72)).cell? ⟨b, off + q, none⟩ = some (.string (ofBytes (lastN l))) := by
      rw [World.cell?_alloc_lt _ _ _ hbl]; exact HLA.out
    have hstr : (w'.alloc (.cells #[.slice (some ⟨b, off, none⟩) m c] 72)).cell? ⟨w'.heap.size, 0, none⟩ = some (.slice (some ⟨b, off, none⟩) m c) := by simp
    have HKS : ∀ w2 : World, Below ((w'.alloc (.cells #[.slice (some ⟨b, off, none⟩) m c] 72)).drew).heap.size ((w'.alloc (.cells #[.slice (some ⟨b, off, none⟩) m c] 72)).drew) w2 → Hid (w2.cell? ⟨w'.heap.size, 0, none⟩ = some (.slice (some ⟨b, off, none⟩) m c) ∧ w2.cell? ⟨b, off + q, none⟩ = some (.string (ofBytes (lastN l)))) := fun w2 hb2 =>
      ⟨(hb2.cell (p := ⟨w'.heap.size, 0, none⟩) (by simp)).trans hstr, (hb2.cell (p := ⟨b, off + q, none⟩) (Nat.lt_of_lt_of_le hbl (by simp))).trans hlast2⟩
    go_region_held3 (fun w1 => w1.cell? ⟨w'.heap.size, 0, none⟩ = some (.slice (some ⟨b, off, none⟩) m c) ∧ w1.cell? ⟨b, off + q, none⟩ = some (.string (ofBytes (lastN l))))
      (first | exact (HKS _ hb2).out | go_keep)
      ((go_at_call 24; refine (hlx.out _ (((Below.refl _ _).alloc (Nat.le_refl _) _).drew)).mono ?_; rintro e w2 ⟨rfl, hb2⟩))
    all_goals
      go_wp2_with fail
      go_ret3
      exact ⟨by rw [HPE.out]; rfl, below_trans (hb.alloc hb.size _).drew hb2⟩

/-- Join's answer. -/
def joinP (xs : List ByteArray) : List UInt8 × Int :=
  if rightN xs = 0 then (textP (xs.map bytesOf), 0) else ([], rightN xs)
def JoinPost (xs : List ByteArray) (w : World) (e : Ending) (w' : World) : Prop :=
  e = .returned (.tuple #[.string (ofBytes (joinP xs).1), .int .i64 (joinP xs).2]) ∧ Below w.heap.size w w'
theorem rightN_zero {xs : List ByteArray} (h : rightN xs = 0) : xs.length ≤ 16 ∧ xs.all rightS = true := by
  unfold rightN at h
  split at h
  · cases h
  · refine ⟨by omega, ?_⟩
    cases hb : xs.all rightS
    · rw [hb] at h; cases h
    · rfl

end Go.Proofs.YtdlblbhmeidhbaaGreatDoor

namespace Go.Proofs.YtdlblbhmeidhbaaGreatDoor
open Go.RowKit

/-- Is a path within another? -/
def withinN (a b : List (List UInt8)) : Bool := decide (b.length < a.length) && decide (a.take b.length = b)
def withinP (s t : List UInt8) : Bool × Int :=
  if (readP s).1 ≠ 0 then (false, (readP s).1) else if (readP t).1 ≠ 0 then (false, (readP t).1) else (withinN (readP s).2 (readP t).2, 0)
def WithinPost (s t : ByteArray) (w : World) (e : Ending) (w' : World) : Prop :=
  e = .returned (.tuple #[.bool (withinP (bytesOf s) (bytesOf t)).1, .int .i64 (withinP (bytesOf s) (bytesOf t)).2]) ∧ Below w.heap.size w w'

theorem readP_err {s : List UInt8} (h : (readP s).1 ≠ 0) : (readP s).2 = [] := by
  rcases readP_cases s with ⟨e, _⟩ | ⟨_, e⟩
  · exact absurd e h
  · exact e

end Go.Proofs.YtdlblbhmeidhbaaGreatDoor

namespace Go.Proofs.YtdlblbhmeidhbaaGreatDoor
open Go.RowKit

theorem rightB_mem {x : List UInt8} (h : rightB x = true) : x ≠ [] ∧ (47 : UInt8) ∉ x := by
  simp only [rightB, Bool.and_eq_true, decide_eq_true_eq, List.all_eq_true, Bool.not_eq_true'] at h
  refine ⟨fun e => by rw [e] at h; simp at h, fun hm => ?_⟩
  have h47 : okByte 47 = true := by
    first
      | exact h.2 47 hm
      | exact h.1.2 47 hm
      | exact h.2.2 47 hm
  exact absurd ((okByte_iff 47).1 h47).2.2 (by decide)
theorem joinL_ne (c : UInt8) {xs : List (List UInt8)} (h : xs ≠ []) (hx : ∀ x ∈ xs, x ≠ []) : joinL c xs ≠ [] := by
  cases xs with
  | nil => exact absurd rfl h
  | cons y ys =>
    have hy := hx y (by simp)
    cases ys with
    | nil => simpa [joinL] using hy
    | cons z zs => rw [joinL_cons _ _ (by simp)]; simp

/-- Names told as a text read as those names. -/
theorem readP_textP {xs : List (List UInt8)} (h16 : xs.length ≤ 16) (hr : xs.all rightB = true) : readP (textP xs) = (0, xs) := by
  have hm : ∀ x ∈ xs, x ≠ [] ∧ (47 : UInt8) ∉ x := fun x hx => rightB_mem (List.all_eq_true.1 hr x hx)
  have hp : Lib.hasPrefix (textP xs) [47] = true := by simp [Lib.hasPrefix, textP]
  have hd : (textP xs).drop 1 = joinL 47 xs := rfl
  rw [readP, if_pos hp, hd, readR]
  by_cases hx : xs = []
  · subst hx; rfl
  · rw [if_neg (joinL_ne 47 hx (fun x h => (hm x h).1)), split_joinL 47 hx (fun y hy => (hm y hy).2), readN]
    have he : xs.any List.isEmpty = false := by
      rw [List.any_eq_false]
      intro x h
      rw [List.isEmpty_iff]; exact (hm x h).1
    rw [he, if_neg (by simp), if_neg (by omega), if_pos hr]
/-- A text that reads as names is what they are told as. -/
theorem textP_readP {s : List UInt8} (h : (readP s).1 = 0) : textP (readP s).2 = s := by
  unfold readP at h ⊢
  by_cases hp : Lib.hasPrefix s [47] = true
  · rw [if_pos hp] at h ⊢
    have hs : s = 47 :: s.drop 1 := by
      cases s with
      | nil => simp [Lib.hasPrefix] at hp
      | cons x xs =>
        have : x = 47 := by
          have h' := hp
          simp [Lib.hasPrefix] at h'
          first
            | exact h'
            | exact h'.symm
        rw [this]; rfl
    unfold readR at h ⊢
    by_cases h1 : s.drop 1 = []
    · rw [if_pos h1]; rw [h1] at hs; rw [hs]; rfl
    · rw [if_neg h1] at h ⊢
      rcases readN_cases (splitL 47 (s.drop 1)) with ⟨_, e2, _⟩ | ⟨e1, _⟩
      · rw [e2, textP, joinL_split]; exact hs.symm
      · rw [h] at e1; exact absurd e1 (by decide)
  · rw [if_neg hp] at h; exact absurd h (by decide)
theorem readP_fine {s : List UInt8} (h : (readP s).1 = 0) : (readP s).2.length ≤ 16 ∧ (readP s).2.all rightB = true := by
  rcases readP_cases s with ⟨_, h2, h3⟩ | ⟨e1, _⟩
  · exact ⟨h2.1, h3⟩
  · rw [h] at e1; exact absurd e1 (by decide)
theorem readP_take {s : List UInt8} (h : (readP s).1 = 0) (k : Nat) : readP (textP ((readP s).2.take k)) = (0, (readP s).2.take k) := by
  obtain ⟨h1, h2⟩ := readP_fine h
  refine readP_textP (by rw [List.length_take]; omega) ?_
  rw [List.all_eq_true] at h2 ⊢
  exact fun x hx => h2 x (List.mem_of_mem_take hx)

theorem parentP_ok {s : List UInt8} (h : (parentP s).2.2 = 0) : (readP s).1 = 0 ∧ (readP s).2 ≠ [] ∧ (parentP s).1 = textP ((readP s).2.take ((readP s).2.length - 1)) ∧ (parentP s).2.1 = lastN (readP s).2 := by
  unfold parentP at h ⊢
  by_cases h1 : (readP s).1 ≠ 0
  · rw [if_pos h1] at h; exact absurd h h1
  · rw [if_neg h1] at h ⊢
    by_cases h2 : (readP s).2 = []
    · rw [if_pos h2] at h; exact absurd h (by decide)
    · rw [if_neg h2]; exact ⟨by omega, h2, rfl, rfl⟩
theorem names_last {l : List (List UInt8)} (h : l ≠ []) : l.take (l.length - 1) ++ [lastN l] = l := by
  have : l.take (l.length - 1) = l.dropLast := by rw [List.dropLast_eq_take]
  rw [this, lastN, List.getLastD_eq_getLast?, List.getLast?_eq_some_getLast h]
  exact List.dropLast_concat_getLast h

theorem withinN_iff {a b : List (List UInt8)} : withinN a b = true ↔ b.length < a.length ∧ a.take b.length = b := by
  simp [withinN]
theorem withinN_antisymm {a b : List (List UInt8)} (h : withinN a b = true) : withinN b a = false := by
  rw [withinN_iff] at h
  rw [Bool.eq_false_iff]; intro h2; rw [withinN_iff] at h2; omega
theorem withinN_trans {a b c : List (List UInt8)} (h : withinN a b = true) (k : withinN b c = true) : withinN a c = true := by
  rw [withinN_iff] at h k ⊢
  refine ⟨by omega, ?_⟩
  rw [← k.2, ← h.2, List.take_take, List.length_take]
  congr 1
  first
    | omega
    | (rw [h.2]; omega)
theorem withinN_take {a : List (List UInt8)} {k : Nat} (h : k < a.length) : withinN a (a.take k) = true := by
  rw [withinN_iff, List.length_take]
  exact ⟨by omega, by rw [Nat.min_eq_left (by omega)]⟩
theorem withinP_ok {s t : List UInt8} (h1 : (readP s).1 = 0) (h2 : (readP t).1 = 0) : withinP s t = (withinN (readP s).2 (readP t).2, 0) := by
  rw [withinP, if_neg (by omega), if_neg (by omega)]
theorem withinP_err {s t : List UInt8} : (withinP s t).2 = if (readP s).1 ≠ 0 then (readP s).1 else (readP t).1 := by
  unfold withinP
  by_cases h1 : (readP s).1 ≠ 0
  · rw [if_pos h1, if_pos h1]
  · rw [if_neg h1, if_neg h1]
    by_cases h2 : (readP t).1 ≠ 0
    · rw [if_pos h2]
    · rw [if_neg h2]; exact (Decidable.not_not.1 h2).symm

/-- Each of the beginnings is within all that follow. -/
theorem prefixes_within {s : List UInt8} (h : (readP s).1 = 0) {k : Nat} (hk : k < (readP s).2.length) :
    withinP (textP ((readP s).2.take (k + 1))) (textP ((readP s).2.take k)) = (true, 0) := by
  rw [withinP_ok (by rw [readP_take h]) (by rw [readP_take h]), readP_take h, readP_take h]
  refine Prod.ext ?_ rfl
  rw [withinN_iff, List.length_take, List.length_take, List.take_take]
  exact ⟨by omega, by congr 1; omega⟩
/-- A path is within its parent. -/
theorem within_parent {s : List UInt8} (h : (parentP s).2.2 = 0) : withinP s (parentP s).1 = (true, 0) := by
  obtain ⟨h1, h2, h3, _⟩ := parentP_ok h
  rw [h3, withinP_ok h1 (by rw [readP_take h1]), readP_take h1]
  refine Prod.ext ?_ rfl
  exact withinN_take (by have := List.length_pos_iff.2 h2; omega)
theorem split_parent {s : List UInt8} (h : (parentP s).2.2 = 0) : (readP (parentP s).1).1 = 0 ∧ (readP s).1 = 0 ∧ (readP s).2 = (readP (parentP s).1).2 ++ [(parentP s).2.1] := by
  obtain ⟨h1, h2, h3, h4⟩ := parentP_ok h
  rw [h3, readP_take h1, h4]
  exact ⟨rfl, h1, (names_last h2).symm⟩
end Go.Proofs.YtdlblbhmeidhbaaGreatDoor
