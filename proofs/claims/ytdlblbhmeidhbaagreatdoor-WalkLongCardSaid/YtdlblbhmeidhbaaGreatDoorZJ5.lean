/- The law WalkLong as a call. Conditions: none. -/
import Derived.Test.YtdlblbhmeidhbaaGreatDoorZJ4
import Derived.OpenShut
namespace Go.Proofs.YtdlblbhmeidhbaaGreatDoor
open Go.RowKit Go.ChangeShapes

def lenV : Value → Nat
  | .slice _ n _ => n
  | _ => 0
set_option maxRecDepth 400000 in
set_option maxHeartbeats 2000000 in
theorem llong_out (k : Int) (W : World) (h : k < -1 ∨ 1 < k) :
    Calls Tryz.prog 3 #[.int .i64 k] W fun e W' => e = .returned (.bool true) ∧ Below W.heap.size W W' := by
  have HK := Lib.hid works_any
  have H : Hid (decide (k < (-1 : Int)) = true ∨ (decide (k < (-1 : Int)) = false ∧ decide ((1 : Int) < k) = true)) := by
    rw [Hid]
    by_cases h1 : k < -1
    · exact .inl (decide_eq_true h1)
    · exact .inr ⟨decide_eq_false h1, decide_eq_true (by omega)⟩
  clear h
  rcases H.out with h | ⟨h, h'⟩
  all_goals
    go_enter Tryz.func3, Tryz.ntmps3
    go_wp2_with fail
    refine (HK.out _).mono ?_
    rintro e w1 ⟨rfl, hb1⟩
    go_wp2_with fail
    go_ret
    exact ⟨rfl, hb1⟩
set_option maxRecDepth 400000 in
set_option maxHeartbeats 6000000 in
theorem llong_in (k : Int) (N : Nat) (b : Bool) (a1 a2 a3 a4 a5 a6 a7 z : Int) (W : World) (hN : 20000 + k = (N : Int)) (h1 : 19999 ≤ N) (h2 : N ≤ 20001) (hz : (z = 0 ∧ b = false ∧ N ≤ 20000) ∨ (z = 3 ∧ 20000 < N))
    (hA : ∀ A c W, RowAt W A ((longL N).map encW) → Calls Tryz.prog 7 #[.string ⟨#[47, 97, 98]⟩, .slice A N c] W fun e W' => e = .returned (.tuple #[agg8 (cellsB b a1 a2 a3 a4 a5 a6 a7), .int .i64 z]) ∧ Below W.heap.size W W')
    (hB : ∀ A c W, RowAt W A ((longL N).map encW) → Calls Tryz.prog 8 #[.string ⟨#[47, 97, 98]⟩, .slice A N c] W fun e W' => e = .returned (.tuple #[agg8 (cellsB b a1 a2 a3 a4 a5 a6 a7), .int .i64 z]) ∧ Below W.heap.size W W')
    (hE : ∀ A c W, RowAt W A ((longL N).map encW) → Calls Tryz.prog 10 #[.string ⟨#[47, 97, 98]⟩, .slice A N c] W fun e W' => e = .returned (.bool (z == 0 && !b)) ∧ Below W.heap.size W W') :
    Calls Tryz.prog 3 #[.int .i64 k] W fun e W' => e = .returned (.bool true) ∧ Below W.heap.size W W' := by
  obtain ⟨i0, hi, hz0, hz1, hz2⟩ := info_parts Tryz.infoU64
  have HK := Lib.hid works_any
  have hk1 : decide (k < (-1 : Int)) = false := decide_eq_false (by omega)
  have hk2 : decide ((1 : Int) < k) = false := decide_eq_false (by omega)
  have HNN := Lib.hid hN
  have hNw : IntKind.i64.wrap (20000 + k) = (N : Int) := by rw [hN]; exact IntWalk.i64_in _ (by omega)
  unfold agg8 cellsB cellsW at hA hB
  have HA := Lib.hid hA
  have HB := Lib.hid hB
  have HE := Lib.hid hE
  have HZ := Lib.hid hz
  have H1 : Hid (∀ u ∈ [encW 1, encW 9], u.oneCell' = true) := fun u hu => by
    rcases List.mem_cons.1 hu with rfl | hu
    · rfl
    · rw [List.mem_singleton.1 hu]; rfl
  clear hA hB hE hz
  have hN0 : (0 : Int) ≤ (N : Int) := by omega
  go_enter Tryz.func3, Tryz.ntmps3
  go_wp2_with fail
  have HI0 : Hid ((W.alloc (.cells #[.int .u64 4, .int .u64 258, .int .u64 5, .int .u64 9] 23)).ownsRow W.heap.size 23 1 (.slice (some ⟨W.heap.size, 0, none⟩) 4 4) 4 ((longL 4).map encW)) :=
    World.ownsRow_lit W #[encW 4, encW 258, encW 5, encW 9] 4 (Nat.le_refl _) (by simp [maxLen]) (by simp)
  go_loopw [3] (fun v wr => ∃ (m c : Nat) (A : Option Addr), v = .slice A m c ∧ m ≤ c ∧ c ≤ maxLen ∧ m ≤ N + 1 ∧ m % 2 = 0 ∧ 4 ≤ m ∧ Hid (wr.ownsRow W.heap.size 23 1 (.slice A m c) m ((longL m).map encW)) ∧ Below W.heap.size W wr) (fun v _ => N + 2 - lenV v)
  case atStart => exact ⟨4, 4, _, rfl, Nat.le_refl _, by simp [maxLen], by omega, by omega, by omega, HI0.out, (Below.refl _ _).alloc (Nat.le_refl _) _⟩
  case round =>
    obtain ⟨m, c, A, rfl, hmc, hcm, hmN, hm2, hm4, how, hbw⟩ := hrel
    have hsw := hbw.size
    by_cases hlt : m < N
    · have hltI : (m : Int) < (N : Int) := by omega
      have hrw : RowAt (wr.alloc (.cells #[.int .u64 1, .int .u64 9] 23)) (some ⟨wr.heap.size, 0, none⟩) [encW 1, encW 9] := rowAt_fresh wr #[.int .u64 1, .int .u64 9] 23 [encW 1, encW 9] rfl
      have HRW := Lib.hid hrw
      have HBW := Lib.hid hbw
      have HLT := Lib.hid how.out.lt
      clear hrw hbw
      go_wp2_with (at_builtin; refine wpList_append_row _ (by rfl) _ _ 24 rfl W.heap.size 23 i0 (.int .u64 0) 8 Tryz.underlyingU64s hi hz0 hz1 hz2 rfl _ m ((longL m).map encW) rfl (how.out.alloc _) (some ⟨wr.heap.size, 0, none⟩) 2 2 [encW 1, encW 9] rfl rfl HRW.out H1.out ?c1 ?c2 ?c3 ?_)
      case c1 => unfold maxLen; omega
      case c2 => omega
      case c3 => simp; omega
      intro v' w2 hown2 hg2
      have HB2 : Hid (Below W.heap.size W w2) := (HBW.out.alloc hsw _).grown hg2 (by simp; omega) (fun r e => (HLT.out r e).1)
      have hown3 : w2.ownsRow W.heap.size 23 1 v' (m + 2) ((longL (m + 2)).map encW) := by
        rw [longL_two hm4 hm2, List.map_append]
        exact hown2
      clear hown2 hg2
      obtain ⟨A', c', rfl, h3, h4⟩ := owns_slice hown3
      have HO3 := Lib.hid hown3
      clear hown3
      go_wp2_with fail
      go_roundw
      case rel => exact ⟨m + 2, c', A', rfl, h3, h4, by omega, by omega, by omega, HO3.out, HB2.out⟩
      case measure => simp [lenV]; omega
    · have hltI : ¬ (m : Int) < (N : Int) := by omega
      have hrow := row_of_own how.out
      obtain ⟨bb, off, rfl, hbb, hcc⟩ := hrow (by rw [List.length_map, longL_length]; omega)
      have hR : ∀ W1, Below wr.heap.size wr W1 → RowAt W1 (some ⟨bb, off, none⟩) ((longL N).map encW) := fun W1 h => by
        have := (hrow.below h).take N
        rwa [← List.map_take, longL_take (by omega)] at this
      have HR := Lib.hid hR
      have hNc : (N : Int) ≤ (c : Int) := by omega
      have HBW := Lib.hid hbw
      clear hrow hcc how hR hbw
      go_wp2_with fail
      refine (HA.out _ _ _ (HR.out _ (Below.refl _ _))).mono ?_
      rintro e w1 ⟨rfl, hb1⟩
      have HB1 := Lib.hid hb1
      have hs1 := hb1.size
      clear hb1
      have HCA := Lib.hid (cellsB_new w1 b a1 a2 a3 a4 a5 a6 a7 30)
      have HB2 := Lib.hid (HB1.out.alloc hs1 (.cells #[.bool b, .int .i64 a1, .int .i64 a2, .int .i64 a3, .int .i64 a4, .int .i64 a5, .int .i64 a6, .int .i64 a7] 30))
      have HR2 := Lib.hid (HR.out _ HB2.out)
      go_wp2_with fail
      refine (HB.out _ _ _ HR2.out).mono ?_
      rintro e w5 ⟨rfl, hb5⟩
      have hs5 : w1.heap.size + 1 ≤ w5.heap.size := by have := hb5.size; simp at this; omega
      have HB5 := Lib.hid (HB2.out.trans (hb5.mono (by simp; omega)))
      have HCA5 := Lib.hid (HCA.out.below hb5 (by simp))
      clear hb5 HCA HB2 HR2
      have HCB := Lib.hid (cellsB_new w5 b a1 a2 a3 a4 a5 a6 a7 30)
      have hb6 := (Below.refl w5.heap.size w5).alloc (Nat.le_refl _) (.cells #[.bool b, .int .i64 a1, .int .i64 a2, .int .i64 a3, .int .i64 a4, .int .i64 a5, .int .i64 a6, .int .i64 a7] 30)
      have HB6 := Lib.hid (HB5.out.trans (hb6.mono (by omega)))
      have HCA6 := Lib.hid (HCA5.out.below hb6 (by omega))
      have HR6 := Lib.hid (HR.out _ HB6.out)
      clear hb6
      obtain ⟨p0, p1, p2, p3, p4, p5, p6, p7⟩ := HCA6.out.eight
      obtain ⟨q0, q1, q2, q3, q4, q5, q6, q7⟩ := HCB.out.eight
      have HEC := Lib.hid (HE.out _ c _ HR6.out)
      have hs6 : W.heap.size ≤ wr.heap.size := hsw
      rcases HZ.out with ⟨rfl, rfl, h3⟩ | ⟨rfl, h3⟩
      · have hk0 : decide ((0 : Int) < k) = false := decide_eq_false (by omega)
        go_wp2_with (first
          | (go_at_call 9; refine (num_any _ _).mono ?_; rintro e w9 ⟨rfl, hw9⟩; obtain rfl := hw9.symm)
          | fail)
        refine HEC.out.mono ?_
        rintro e w6 ⟨rfl, hb7⟩
        go_wp2_with fail
        refine (HK.out _).mono ?_
        rintro e w7 ⟨rfl, hb8⟩
        go_wp2_with fail
        go_ret
        have hs7 := hb7.size
        have hB6s := HB6.out.size
        exact ⟨rfl, HBW.out.trans (((HB6.out.trans (hb7.mono hB6s)).trans (hb8.mono (by omega))).mono hs6)⟩
      · have hk0 : decide ((0 : Int) < k) = true := decide_eq_true (by omega)
        go_wp2_with (first
          | (go_at_call 9; refine (num_any _ _).mono ?_; rintro e w9 ⟨rfl, hw9⟩; obtain rfl := hw9.symm)
          | fail)
        refine HEC.out.mono ?_
        rintro e w6 ⟨rfl, hb7⟩
        go_wp2_with fail
        refine (HK.out _).mono ?_
        rintro e w7 ⟨rfl, hb8⟩
        go_wp2_with fail
        go_ret
        have hs7 := hb7.size
        have hB6s := HB6.out.size
        exact ⟨rfl, HBW.out.trans (((HB6.out.trans (hb7.mono hB6s)).trans (hb8.mono (by omega))).mono hs6)⟩
theorem llong_any (k : Int) (W : World) (_hk : (Lit.int .i64 k).wf = true) :
    Calls Tryz.prog 3 #[.int .i64 k] W fun e W' => e = .returned (.bool true) ∧ Below W.heap.size W W' := by
  have hmx : maxLen = 9223372036854775807 := rfl
  by_cases ho : k < -1 ∨ 1 < k
  · exact llong_out k W ho
  · obtain ⟨N, hN⟩ : ∃ N : Nat, 20000 + k = (N : Int) := ⟨(20000 + k).toNat, by omega⟩
    have hsz : (⟨#[47, 97, 98]⟩ : ByteArray).size < 4294967281 := by decide
    have hbo : bytesOf ⟨#[47, 97, 98]⟩ = [47, 97, 98] := rfl
    by_cases h2 : N ≤ 20000
    · obtain ⟨a1, a2, a3, a4, a5, a6, a7, he⟩ := runP_long (n := N) (by omega) h2
      refine llong_in k N false a1 a2 a3 a4 a5 a6 a7 0 W hN (by omega) (by omega) (.inl ⟨rfl, rfl, h2⟩) (fun A c W' hr => ?_) (fun A c W' hr => ?_) (fun A c W' hr => ?_)
      · have := run_any (cf := c) ⟨#[47, 97, 98]⟩ W' hsz (longL_length N) (by omega) longL_lt hr
        rwa [hbo, he] at this
      · have := refRun_any (cf := c) ⟨#[47, 97, 98]⟩ W' hsz (longL_length N) longL_lt hr
        rwa [hbo, he] at this
      · exact enough_any (cf := c) ⟨#[47, 97, 98]⟩ false a1 a2 a3 a4 a5 a6 a7 0 W' hsz (longL_length N) (by omega) longL_lt hr (by rw [hbo]; exact he)
    · have he := runP_longer (n := N) (by omega)
      refine llong_in k N false 0 0 0 0 0 0 0 3 W hN (by omega) (by omega) (.inr ⟨rfl, by omega⟩) (fun A c W' hr => ?_) (fun A c W' hr => ?_) (fun A c W' hr => ?_)
      · have := run_any (cf := c) ⟨#[47, 97, 98]⟩ W' hsz (longL_length N) (by omega) longL_lt hr
        rwa [hbo, he] at this
      · have := refRun_any (cf := c) ⟨#[47, 97, 98]⟩ W' hsz (longL_length N) longL_lt hr
        rwa [hbo, he] at this
      · exact enough_any (cf := c) ⟨#[47, 97, 98]⟩ false 0 0 0 0 0 0 0 3 W' hsz (longL_length N) (by omega) longL_lt hr (by rw [hbo]; exact he)
end Go.Proofs.YtdlblbhmeidhbaaGreatDoor
