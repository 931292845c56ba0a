/- The contract of path.Within. Conditions: none. -/
import Derived.Test.YtkhpdlaljepkjaaDoorC5
namespace Go.Proofs.YtkhpdlaljepkjaaDoor
open Go.RowKit

/-- Is a path within another? -/
def withinN (a b : List (List UInt8)) : Bool := decide (b.length < a.length) && decide (a.take b.length = b)
def withinP (s t : List UInt8) : Bool × Int :=
  if (readP s).1 ≠ 0 then (false, (readP s).1) else if (readP t).1 ≠ 0 then (false, (readP t).1) else (withinN (readP s).2 (readP t).2, 0)
def WithinPost (s t : ByteArray) (w : World) (e : Ending) (w' : World) : Prop :=
  e = .returned (.tuple #[.bool (withinP (bytesOf s) (bytesOf t)).1, .int .i64 (withinP (bytesOf s) (bytesOf t)).2]) ∧ Below w.heap.size w w'

set_option maxRecDepth 100000 in
set_option maxHeartbeats 1000000 in
theorem within1_any (a b : List (List UInt8)) (A B : Option Addr) (n m c d p q : Nat) (w : World) (hn : a.length = n) (hm : b.length = m) (hnc : n ≤ c) (hc : c ≤ maxLen) (h : RowAt w A (a.map fun x => .string (ofBytes x))) (h' : RowAt w B (b.map fun x => .string (ofBytes x)))
    (hp : w.cell? ⟨p, 0, none⟩ = some (.slice A n c)) (hq : w.cell? ⟨q, 0, none⟩ = some (.slice B m d)) (hpl : p < w.heap.size) (hql : q < w.heap.size) :
    Calls Tryd.prog 28 #[.int .i64 m, .pointer (some ⟨p, 0, none⟩), .pointer (some ⟨q, 0, none⟩)] w fun e w' => e = .returned (.bool (withinN a b)) ∧ Below w.heap.size w w' := by
  unfold maxLen at hc
  by_cases hlt : m < n
  · have hd : decide ((m : Int) < (n : Int)) = true := by simp; omega
    have HE : Hid (withinN a b = eqL ((a.take m).map ofBytes) (b.map ofBytes)) := by
      rw [Hid, withinN, hn, hm, decide_eq_true hlt, Bool.true_and, eqL]
      congr 1
      rw [eq_iff_iff]
      exact ⟨fun e => by rw [e], fun e => by
        have := congrArg (List.map bytesOf) e
        rw [List.map_map, List.map_map] at this
        simpa [Function.comp_def, bytesOf_ofBytes] using this⟩
    have hlen : ((a.take m).map ofBytes).length = m := by rw [List.length_map, List.length_take, hn]; omega
    have hlen2 : (b.map ofBytes).length = m := by rw [List.length_map, hm]
    have hra : ∀ W, Below w.heap.size w W → RowAt W A (((a.take m).map ofBytes).map .string) := fun W hW => by
      have := (h.below hW).take m
      rw [← List.map_take] at this
      rw [List.map_map]; exact this
    have hrb : ∀ W, Below w.heap.size w W → RowAt W B ((b.map ofBytes).map .string) := fun W hW => by
      rw [List.map_map]; exact h'.below hW
    have HEQ : Hid (∀ W, Below w.heap.size w W → Calls Tryd.prog 29 #[.slice A m c, .slice B m d] W fun e W' => e = .returned (.bool (withinN a b)) ∧ Below W.heap.size W W') := fun W hW => by
      rw [HE.out]
      exact equal_any _ _ A B m m c d W hlen hlen2 (by unfold maxLen; omega) (hra W hW) (hrb W hW)
    have HKS : ∀ w2 : World, Below (w.drew).heap.size w.drew w2 → Hid (w2.cell? ⟨p, 0, none⟩ = some (.slice A n c) ∧ w2.cell? ⟨q, 0, none⟩ = some (.slice B m d)) := fun w2 hb2 =>
      ⟨(hb2.cell (p := ⟨p, 0, none⟩) hpl).trans hp, (hb2.cell (p := ⟨q, 0, none⟩) hql).trans hq⟩
    have hi0 : (0 : Int) ≤ (m : Int) := by omega
    have hi1 : (m : Int) ≤ (c : Int) := by omega
    clear h h' hlen hlen2 hra hrb hn hm
    go_enter Tryd.func28, Tryd.ntmps28
    go_wp2_with fail
    go_region_held3 (fun w1 => w1.cell? ⟨p, 0, none⟩ = some (.slice A n c) ∧ w1.cell? ⟨q, 0, none⟩ = some (.slice B m d))
      (first | exact (HKS _ hb2).out | go_keep)
      ((go_at_call 29; refine (HEQ.out _ ((Below.refl _ _).drew)).mono ?_; rintro e w2 ⟨rfl, hb2⟩))
    all_goals
      go_wp2_with fail
      go_ret
      exact ⟨rfl, below_trans (Below.refl _ _).drew hb2⟩
  · have HE : Hid (withinN a b = false) := by
      rw [Hid, withinN, hn, hm, decide_eq_false hlt]; rfl
    have hd : decide ((m : Int) < (n : Int)) = false := by simp; omega
    go_enter Tryd.func28, Tryd.ntmps28
    go_wp2_with fail
    go_quiet (fail)
    go_wp2_with fail
    go_ret
    exact ⟨by rw [HE.out]; rfl, by first | exact Below.refl _ _ | exact below_drewN (Below.refl _ _) _⟩

theorem readP_err {s : List UInt8} (h : (readP s).1 ≠ 0) : (readP s).2 = [] := by
  rcases readP_cases s with ⟨e, _⟩ | ⟨_, e⟩
  · exact absurd e h
  · exact e

set_option maxRecDepth 100000 in
set_option maxHeartbeats 1000000 in
theorem within_any (s t : ByteArray) (w : World) (hs : s.size < 4294967281) (ht : t.size < 4294967281) :
    Calls Tryd.prog 18 #[.string s, .string t] w (WithinPost s t w) := by
  have HC := Lib.hid (fun W => read_any s W hs)
  have HC2 := Lib.hid (fun W => read_any t W ht)
  have HP : Hid (withinP (bytesOf s) (bytesOf t) = if (readP (bytesOf s)).1 ≠ 0 then (false, (readP (bytesOf s)).1) else if (readP (bytesOf t)).1 ≠ 0 then (false, (readP (bytesOf t)).1) else (withinN (readP (bytesOf s)).2 (readP (bytesOf t)).2, 0)) := rfl
  unfold ReadPost at HC HC2
  generalize readP (bytesOf s) = rp at *
  generalize readP (bytesOf t) = rq at *
  obtain ⟨z, l⟩ := rp
  obtain ⟨z2, l2⟩ := rq
  simp only at HP HC HC2
  by_cases hz : z = 0
  · subst hz
    by_cases hz2 : z2 = 0
    · subst hz2
      have HPE : Hid (withinP (bytesOf s) (bytesOf t) = (withinN l l2, 0)) := by rw [Hid, HP.out]; simp
      go_enter Tryd.func18, Tryd.ntmps18
      go_wp2_with fail
      refine (HC.out _).mono ?_
      rintro e w' ⟨v, rfl, ⟨A, c, rfl, h1, h2, h3⟩, hb, _⟩
      have H3 := Lib.hid h3
      have HB := Lib.hid hb
      clear h3 hb
      go_wp2_with fail
      refine (HC2.out _).mono ?_
      rintro e w2 ⟨v, rfl, ⟨A2, c2, rfl, h21, h22, h23⟩, hb2, _⟩
      have H23 := Lib.hid h23
      obtain ⟨hc, hf⟩ := cells_after hb2
      have hz : w'.heap.size + 1 ≤ w2.heap.size := by have := hb2.size; simp at this; omega
      have hcp : w2.cell? ⟨w'.heap.size, 0, none⟩ = some (.slice A l.length c) := by rw [hc _ _ (by simp)]; simp
      have HB2 := Lib.hid hb2
      have H3b := Lib.hid ((H3.out.alloc (.cells #[.slice A l.length c] 54)).below hb2)
      clear h23 hb2 hc hf
      go_wp2_with fail
      refine (within1_any l l2 A A2 l.length l2.length c c2 w'.heap.size w2.heap.size _ rfl rfl h1 h2 (H3b.out.alloc _) (H23.out.alloc _) ?_ ?_ ?_ ?_).mono ?_
      · rw [World.cell?_alloc_lt _ _ _ (by show w'.heap.size < w2.heap.size; omega)]; exact hcp
      · simp
      · simp; omega
      · simp
      rintro e w3 ⟨rfl, hb3⟩
      go_wp2_with fail
      go_ret2
      exact ⟨by rw [HPE.out]; rfl, below_trans (below_trans (HB.out.alloc HB.out.size _) HB2.out |>.alloc (by have := HB.out.size; omega) _) hb3⟩
    · have hne : (z2 != 0) = true := by simpa using hz2
      have HPE : Hid (withinP (bytesOf s) (bytesOf t) = (false, z2)) := by rw [Hid, HP.out]; simp [hz2]
      clear hz2
      go_enter Tryd.func18, Tryd.ntmps18
      go_wp2_with fail
      refine (HC.out _).mono ?_
      rintro e w' ⟨v, rfl, ⟨A, c, rfl, h1, h2, h3⟩, hb, _⟩
      have H3 := Lib.hid h3
      have HB := Lib.hid hb
      clear h3 hb
      go_wp2_with fail
      refine (HC2.out _).mono ?_
      rintro e w2 ⟨v, rfl, ⟨A2, c2, rfl, h21, h22, h23⟩, hb2, _⟩
      have H23 := Lib.hid h23
      have HB2 := Lib.hid hb2
      have hz : w'.heap.size + 1 ≤ w2.heap.size := by have := hb2.size; simp at this; omega
      clear h23 hb2
      go_wp2_with fail
      go_ret2
      exact ⟨by rw [HPE.out]; rfl, (below_trans (HB.out.alloc HB.out.size _) HB2.out).alloc (by have := HB.out.size; omega) _⟩
  · have hne : (z != 0) = true := by simpa using hz
    have HPE : Hid (withinP (bytesOf s) (bytesOf t) = (false, z)) := by rw [Hid, HP.out]; simp [hz]
    clear hz
    go_enter Tryd.func18, Tryd.ntmps18
    go_wp2_with fail
    refine (HC.out _).mono ?_
    rintro e w' ⟨v, rfl, ⟨A, c, rfl, h1, h2, h3⟩, hb, _⟩
    have H3 := Lib.hid h3
    have HB := Lib.hid hb
    clear h3 hb
    go_wp2_with fail
    go_ret2
    exact ⟨by rw [HPE.out]; rfl, HB.out.alloc HB.out.size _⟩
end Go.Proofs.YtkhpdlaljepkjaaDoor
