/- The contracts of path.Parent and path.Join. Conditions: none. -/
import Derived.Test.YtdlblbhmeidhbaaGreatDoorZC4
import Derived.Deep.RegionHeld3
namespace Go.Proofs.YtdlblbhmeidhbaaGreatDoor
open Go.RowKit

theorem right_len {x : List UInt8} (h : rightB x = true) : x.length ≤ 40 := by
  simp [rightB] at h; omega
theorem readN_cases (l : List (List UInt8)) : ((readN l).1 = 0 ∧ (readN l).2 = l ∧ l.length ≤ 16 ∧ l.all rightB = true) ∨ (((readN l).1 = 170 ∨ (readN l).1 = 160) ∧ (readN l).2 = []) := by
  unfold readN
  by_cases h1 : l.any List.isEmpty = true
  · rw [if_pos h1]; exact .inr ⟨.inl rfl, rfl⟩
  · rw [if_neg h1]
    by_cases h2 : 16 < l.length
    · rw [if_pos h2]; exact .inr ⟨.inl rfl, rfl⟩
    · rw [if_neg h2]
      by_cases h3 : l.all rightB = true
      · rw [if_pos h3]; exact .inl ⟨rfl, rfl, by omega, h3⟩
      · rw [if_neg h3]; exact .inr ⟨.inr rfl, rfl⟩
theorem readP_cases (s : List UInt8) : ((readP s).1 = 0 ∧ Fine (readP s).2 ∧ (readP s).2.all rightB = true) ∨ (((readP s).1 = 170 ∨ (readP s).1 = 160) ∧ (readP s).2 = []) := by
  unfold readP
  by_cases h0 : Lib.hasPrefix s [47] = true
  · rw [if_pos h0]
    unfold readR
    by_cases h1 : s.drop 1 = []
    · rw [if_pos h1]; exact .inl ⟨rfl, ⟨by simp, by simp⟩, rfl⟩
    · rw [if_neg h1]
      rcases readN_cases (splitL 47 (s.drop 1)) with ⟨e1, e2, e3, e4⟩ | h
      · exact .inl ⟨e1, by rw [e2]; exact ⟨e3, fun x hx => right_len (List.all_eq_true.1 e4 x hx)⟩, by rw [e2]; exact e4⟩
      · exact .inr h
  · rw [if_neg h0]; exact .inr ⟨.inl rfl, rfl⟩

/-- The last name. -/
def lastN (l : List (List UInt8)) : List UInt8 := l.getLastD []
/-- Parent's answer. -/
def parentP (s : List UInt8) : List UInt8 × List UInt8 × Int :=
  if (readP s).1 ≠ 0 then ([], [], (readP s).1) else if (readP s).2 = [] then ([], [], 5) else (textP ((readP s).2.take ((readP s).2.length - 1)), lastN (readP s).2, 0)
def ParentPost (s : ByteArray) (w : World) (e : Ending) (w' : World) : Prop :=
  e = .returned (.tuple #[.string (ofBytes (parentP (bytesOf s)).1), .string (ofBytes (parentP (bytesOf s)).2.1), .int .i64 (parentP (bytesOf s)).2.2]) ∧ Below w.heap.size w w'

set_option maxRecDepth 100000 in
set_option maxHeartbeats 1000000 in
theorem parent_any (s : ByteArray) (w : World) (hs : s.size < 4294967281) :
    Calls Tryz.prog 14 #[.string s] w (ParentPost s w) := by
  have HC := Lib.hid (fun W => read_any s W hs)
  have hcs := readP_cases (bytesOf s)
  have HP : Hid (parentP (bytesOf s) = if (readP (bytesOf s)).1 ≠ 0 then ([], [], (readP (bytesOf s)).1) else if (readP (bytesOf s)).2 = [] then ([], [], 5) else (textP ((readP (bytesOf s)).2.take ((readP (bytesOf s)).2.length - 1)), lastN (readP (bytesOf s)).2, 0)) := rfl
  unfold ReadPost at HC
  generalize readP (bytesOf s) = rp at *
  obtain ⟨z, l⟩ := rp
  simp only at hcs HP HC
  have HCS := Lib.hid hcs
  clear hcs
  have hq : (z != 0) = true ∧ l = [] ∨ z = 0 ∧ l = [] ∨ z = 0 ∧ 0 < l.length ∧ Fine l := by
    rcases HCS.out with ⟨e1, e2, _⟩ | ⟨e1, e2⟩
    · cases l with
      | nil => exact .inr (.inl ⟨e1, rfl⟩)
      | cons y ys => exact .inr (.inr ⟨e1, by simp, e2⟩)
    · exact .inl ⟨by rw [bne_iff_ne]; omega, e2⟩
  rcases hq with ⟨hz, rfl⟩ | ⟨rfl, rfl⟩ | ⟨rfl, hl, hf⟩
  · go_enter Tryz.func14, Tryz.ntmps14
    go_wp2_with fail
    refine (HC.out _).mono ?_
    rintro e w' ⟨v, rfl, ⟨A, c, rfl, h1, h2, h3⟩, hb, _⟩
    have H3 := Lib.hid h3
    clear h3
    go_wp2_with fail
    go_ret3
    exact ⟨by rw [HP.out, if_pos (by simpa using hz)]; rfl, hb.alloc hb.size _⟩
  · have HPE : Hid (parentP (bytesOf s) = ([], [], 5)) := by rw [Hid, HP.out]; simp
    go_enter Tryz.func14, Tryz.ntmps14
    go_wp2_with fail
    refine (HC.out _).mono ?_
    rintro e w' ⟨v, rfl, ⟨A, c, rfl, h1, h2, h3⟩, hb, _⟩
    have H3 := Lib.hid h3
    clear h3
    go_wp2_with fail
    go_ret3
    exact ⟨by rw [HPE.out]; rfl, hb.alloc hb.size _⟩
  · have hf1 := hf.1
    have HF := Lib.hid hf
    clear hf
    go_enter Tryz.func14, Tryz.ntmps14
    go_wp2_with fail
    refine (HC.out _).mono ?_
    rintro e w' ⟨v, rfl, ⟨A, c, rfl, h1, h2, h3⟩, hb, _⟩
    obtain ⟨b, off, rfl, hbl, hcl⟩ := id (h3 (by rw [List.length_map]; exact hl))
    have H3 := Lib.hid h3
    have HCL := Lib.hid hcl
    clear h3 hcl
    have HPE : Hid (parentP (bytesOf s) = (textP (l.take (l.length - 1)), lastN l, 0)) := by
      rw [Hid, HP.out, if_neg (by simp), if_neg (fun e => by rw [e] at hl; simp at hl)]
    have hm : ∃ m : Nat, Hid (l.length = m) ∧ 0 < m ∧ m ≤ 16 := ⟨_, rfl, hl, hf1⟩
    obtain ⟨m, HM, hm0, hm16⟩ := hm
    rw [HM.out] at h1 HPE ⊢
    clear hf1 hl
    obtain ⟨q, hq, hq1⟩ : ∃ q : Nat, (m : Int) - 1 = (q : Int) ∧ m - 1 = q := ⟨m - 1, by omega, rfl⟩
    rw [hq1] at HPE
    have hlast : w'.cell? ⟨b, off + q, none⟩ = some (.string (ofBytes (lastN l))) := by
      refine HCL.out q _ ?_
      rw [lastN, List.getElem?_map, List.getLastD_eq_getLast?, List.getLast?_eq_getElem?, HM.out, hq1]
      rw [List.getElem?_eq_getElem (by rw [HM.out]; omega)]; rfl
    have HLA := Lib.hid hlast
    have hlx : Hid (∀ (W : World) (hb : Below w'.heap.size w' W), Calls Tryz.prog 24 #[.slice (some ⟨b, off, none⟩) m c, .int .i64 q] W fun e W' => e = .returned (.string (ofBytes (textP (l.take q)))) ∧ Below W.heap.size W W') := fun W hbW =>
      text_any l (some ⟨b, off, none⟩) c q m W HM.out (by omega) h1 h2 HF.out (H3.out.below hbW)
    have hi0 : (0 : Int) ≤ (q : Int) := by omega
    have hi1 : (q : Int) < (m : Int) := by omega
    clear hlast hq1
    go_wp2_with fail
    have hlast2 : (w'.alloc (.cells #[.slice (some ⟨b, off, none⟩) m c] 72)).cell? ⟨b, off + q, none⟩ = some (.string (ofBytes (lastN l))) := by
      rw [World.cell?_alloc_lt _ _ _ hbl]; exact HLA.out
    have hstr : (w'.alloc (.cells #[.slice (some ⟨b, off, none⟩) m c] 72)).cell? ⟨w'.heap.size, 0, none⟩ = some (.slice (some ⟨b, off, none⟩) m c) := by simp
    have HKS : ∀ w2 : World, Below ((w'.alloc (.cells #[.slice (some ⟨b, off, none⟩) m c] 72)).drew).heap.size ((w'.alloc (.cells #[.slice (some ⟨b, off, none⟩) m c] 72)).drew) w2 → Hid (w2.cell? ⟨w'.heap.size, 0, none⟩ = some (.slice (some ⟨b, off, none⟩) m c) ∧ w2.cell? ⟨b, off + q, none⟩ = some (.string (ofBytes (lastN l)))) := fun w2 hb2 =>
      ⟨(hb2.cell (p := ⟨w'.heap.size, 0, none⟩) (by simp)).trans hstr, (hb2.cell (p := ⟨b, off + q, none⟩) (Nat.lt_of_lt_of_le hbl (by simp))).trans hlast2⟩
    go_region_held3 (fun w1 => w1.cell? ⟨w'.heap.size, 0, none⟩ = some (.slice (some ⟨b, off, none⟩) m c) ∧ w1.cell? ⟨b, off + q, none⟩ = some (.string (ofBytes (lastN l))))
      (first | exact (HKS _ hb2).out | go_keep)
      ((go_at_call 24; refine (hlx.out _ (((Below.refl _ _).alloc (Nat.le_refl _) _).drew)).mono ?_; rintro e w2 ⟨rfl, hb2⟩))
    all_goals
      go_wp2_with fail
      go_ret3
      exact ⟨by rw [HPE.out]; rfl, below_trans (hb.alloc hb.size _).drew hb2⟩

/-- Join's answer. -/
def joinP (xs : List ByteArray) : List UInt8 × Int :=
  if rightN xs = 0 then (textP (xs.map bytesOf), 0) else ([], rightN xs)
def JoinPost (xs : List ByteArray) (w : World) (e : Ending) (w' : World) : Prop :=
  e = .returned (.tuple #[.string (ofBytes (joinP xs).1), .int .i64 (joinP xs).2]) ∧ Below w.heap.size w w'
theorem rightN_zero {xs : List ByteArray} (h : rightN xs = 0) : xs.length ≤ 16 ∧ xs.all rightS = true := by
  unfold rightN at h
  split at h
  · cases h
  · refine ⟨by omega, ?_⟩
    cases hb : xs.all rightS
    · rw [hb] at h; cases h
    · rfl

end Go.Proofs.YtdlblbhmeidhbaaGreatDoor
