/- The law WalkHolds as a call. Conditions: none. -/
import Derived.Test.YtdlblbhmeidhbaaDoorZGZ
namespace Go.Proofs.YtdlblbhmeidhbaaDoor
open Go.RowKit

theorem ownsRow_empty1 (w : World) (X : Obj) (base : Nat) (e : TypeId) (size : Nat) (hb : base ≤ w.heap.size + 1) : ((w.alloc X).alloc (.cells #[] e)).ownsRow base e size (.slice (some ⟨w.heap.size + 1, 0, none⟩) 0 0) 0 [] := by
  have := ownsRow_empty (w.alloc X) base e size (by rw [World.size_alloc]; exact hb)
  rwa [World.size_alloc] at this
set_option maxRecDepth 400000 in
set_option maxHeartbeats 2000000 in
theorem lholds_no (s : ByteArray) (A B : Option Addr) (fed more : List Nat) (n m cA cB : Nat) (z : Int) (W : World) (hs : s.size ≤ 300) (hn : fed.length = n) (hm : more.length = m) (hn1 : n ≤ 100) (hm1 : m ≤ 100) (hz : z ≠ 0)
    (hrA : RowAt W A (fed.map encW)) (hrB : RowAt W B (more.map encW))
    (hA : ∀ C k (l : List Nat) j W, l.length = j → j ≤ 200 → RowAt W C (l.map encW) → Calls Tryd.prog 5 #[.string s, .slice C j k] W fun e W' => e = .returned (.tuple #[agg8 zeroW, .int .i64 z]) ∧ Below W.heap.size W W') :
    Calls Tryd.prog 3 #[.string s, .slice A n cA, .slice B m cB] W fun e W' => e = .returned (.bool true) ∧ Below W.heap.size W W' := by
  obtain ⟨i0, hi, hz0, hz1, hz2⟩ := info_parts Tryd.infoU64
  have HK := Lib.hid works_any
  have hzb : (z != 0) = true := by rw [bne_iff_ne]; exact hz
  have hzz : (z == z) = true := by simp
  have h300 : decide ((300 : Int) < (s.size : Int)) = false := by simp; omega
  have h100 : decide ((100 : Int) < (n : Int)) = false := by simp; omega
  have h100' : decide ((100 : Int) < (m : Int)) = false := by simp; omega
  unfold agg8 zeroW cellsW at hA
  have HA := Lib.hid hA
  have HRA := Lib.hid hrA
  have HRB := Lib.hid hrB
  have HN := Lib.hid (show (fed.map encW).length = n by rw [List.length_map, hn])
  have HM := Lib.hid (show (more.map encW).length = m by rw [List.length_map, hm])
  have HN0 := Lib.hid hn
  have HM0 := Lib.hid hm
  have H1 : Hid (∀ l : List Nat, ∀ u ∈ l.map encW, u.oneCell' = true) := fun l u hu => by
    obtain ⟨x, _, rfl⟩ := List.mem_map.1 hu; rfl
  clear hrA hrB hA hz hn hm
  go_enter Tryd.func3, Tryd.ntmps3
  go_wp2_with fail
  refine (HA.out _ _ fed n _ HN0.out (by omega) HRA.out).mono ?_
  rintro e w1 ⟨rfl, hb1⟩
  have HB1 := Lib.hid hb1
  have hs1 := hb1.size
  clear hb1
  have HB2 : Hid (Below W.heap.size W (w1.alloc (.cells #[.bool false, .int .i64 0, .int .i64 0, .int .i64 0, .int .i64 0, .int .i64 0, .int .i64 0, .int .i64 0] 29))) := HB1.out.alloc hs1 _
  have hs2 : W.heap.size ≤ w1.heap.size + 1 := by omega
  have HRA2 := Lib.hid (HRA.out.below HB2.out)
  go_wp2_with (at_builtin; refine wpList_append_row _ (by rfl) (.tmp 34) (.tmp 35) 22 rfl W.heap.size 38 i0 (.int .u64 0) 8 Tryd.underlyingU64s hi hz0 hz1 hz2 rfl _ 0 [] rfl (ownsRow_empty1 w1 _ _ _ _ (Nat.le_succ_of_le hs1)) A n cA (fed.map encW) rfl HN.out (HRA2.out.alloc _) (H1.out fed) ?c1 ?c2 ?c3 ?_)
  case c1 => unfold maxLen; omega
  case c2 => omega
  case c3 => simp; omega
  intro v1 w3 hown1 hg1
  have HB3 : Hid (Below W.heap.size W w3) := (HB2.out.alloc HB2.out.size _).grown hg1 (by simp; omega) (fun r e => by cases e; exact hs2)
  have hs3 := HB3.out.size
  have HO1 := Lib.hid hown1
  have HLT1 := Lib.hid hown1.lt
  clear hown1 hg1
  go_wp2_with (at_builtin; refine wpList_append_row _ (by rfl) (.tmp 36) (.tmp 37) 22 rfl W.heap.size 38 i0 (.int .u64 0) 8 Tryd.underlyingU64s hi hz0 hz1 hz2 rfl _ _ _ rfl HO1.out B m cB (more.map encW) rfl HM.out (HRB.out.below HB3.out) (H1.out more) ?c1 ?c2 ?c3 ?_)
  case c1 => unfold maxLen; omega
  case c2 => omega
  case c3 => omega
  intro v2 w4 hown2 hg2
  have HB4 : Hid (Below W.heap.size W w4) := HB3.out.grown hg2 (by omega) (fun r e => (HLT1.out r e).1)
  have hs4 := HB4.out.size
  have hown3 : w4.ownsRow W.heap.size 38 1 v2 (n + m) ((fed ++ more).map encW) := by rw [List.map_append]; exact hown2
  have HLL : Hid ((fed ++ more).length = n + m) := by rw [Hid, List.length_append, HN0.out, HM0.out]
  clear hown2 hg2
  obtain ⟨A3, c3, rfl, hc3, hcm3⟩ := owns_slice hown3
  have HO3 := Lib.hid hown3
  have HR3 := Lib.hid (row_of_own hown3)
  clear hown3
  go_wp2_with fail
  refine (HA.out _ _ (fed ++ more) _ _ HLL.out (by omega) HR3.out).mono ?_
  rintro e w5 ⟨rfl, hb5⟩
  have HB5 := Lib.hid (HB4.out.trans (hb5.mono hs4))
  clear hb5
  go_wp2_with (go_at_call 6; refine (num_any _ _).mono ?_; rintro e w9 ⟨rfl, rfl⟩)
  refine (HK.out _).mono ?_
  rintro e w6 ⟨rfl, hb6⟩
  have hs5 := HB5.out.size
  go_wp2_with fail
  go_ret
  exact ⟨rfl, (HB5.out.alloc hs5 _).trans (hb6.mono (by simp; omega))⟩
end Go.Proofs.YtdlblbhmeidhbaaDoor
