/- The contract of word.Bytes at one word. Conditions: none. -/
import Derived.Test.YtgkmcooahjoagaaW4
namespace Go.Proofs.Ytgkmcooahjoagaa
open Go.RowKit

/-- A word's bytes. -/
def byteOf (a i : Nat) : UInt8 := UInt8.ofNat (a / 2 ^ (8 * i))
def byte8 (a : Nat) : List UInt8 := (List.range 8).map (byteOf a)
theorem byte8_length (a : Nat) : (byte8 a).length = 8 := by simp [byte8]
theorem byte8_take (a k : Nat) (h : k < 8) : (byte8 a).take (k + 1) = (byte8 a).take k ++ [byteOf a k] := by
  rw [byte8, ← List.map_take, ← List.map_take, List.take_range, List.take_range, Nat.min_eq_left (by omega), Nat.min_eq_left (by omega), List.range_succ, List.map_append]; rfl

set_option maxRecDepth 100000 in
set_option maxHeartbeats 2000000 in
theorem bytes8_any (a b off c : Nat) (w : World) (_ha : a < 18446744073709551616) (hc : w.cell? ⟨b, off, none⟩ = some (.int .u64 (a : Nat))) :
    Calls Try.prog 25 #[.slice (some ⟨b, off, none⟩) 1 c, .int .i64 8] w fun e w' => ∃ g, e = .returned (.tuple #[.slice (some ⟨g, 0, none⟩) 8 8, .int .i64 0]) ∧ w.heap.size ≤ g ∧ RowAt w' (some ⟨g, 0, none⟩) ((byte8 a).map encB) ∧ Below w.heap.size w w' := by
  obtain ⟨i0, hi, hz0, hz1, hz2⟩ := info_parts Try.infoU8
  have hbw : b < w.heap.size := World.block_lt_of_cell? w ⟨b, off, none⟩ hc
  go_enter Try.func25, Try.ntmps25
  go_wp2_with fail
  apply wp_scope_straight
  go_wp2_with go_step3
  refine wp_loop_rounds 2 ?_
  rw [rounds_succ]
  go_wp2_with fail
  go_loopw [4, 36] (fun v i wr => ∃ k : Nat, k ≤ 8 ∧ i = .int .i64 k ∧ wr.ownsRow w.heap.size 5 1 v k (((byte8 a).take k).map encB) ∧ Below w.heap.size w wr) (fun _ i _ => 8 - (intOf i).toNat)
  case atStart => exact ⟨0, Nat.zero_le _, rfl, World.ownsRow_nil _ _ _ _, Below.refl _ _⟩
  case round =>
    obtain ⟨k, hk, rfl, hown, hb⟩ := hrel
    by_cases hlt : k < 8
    · have HTS := Lib.hid (byte8_take a k hlt)
      have hsz := hb.size
      have HLT := Lib.hid hown.lt
      have HOWN := Lib.hid hown
      have HB := Lib.hid hb
      have hx : (a : Int) / 2 ^ (8 * k) % 256 = ((byteOf a k).toNat : Nat) := by
        have e : ((a : Int) / 2 ^ (8 * k) % 256) = ((a / 2 ^ (8 * k) % 256 : Nat) : Int) := by
          have h2 : ((2 : Int) ^ (8 * k)) = ((2 ^ (8 * k) : Nat) : Int) := by simp
          rw [h2]; exact_mod_cast rfl
        rw [e, byteOf]; simp
      have HE : Hid (encB (byteOf a k) = .int .u8 ((byteOf a k).toNat : Nat)) := rfl
      generalize (byteOf a k).toNat = y at *
      clear hown hb
      go_wp2_with (at_builtin; refine wpList_append_own _ rfl _ _ 55 rfl w.heap.size 5 i0 (.int .u8 0) 1 1 Try.underlyingBytes hi hz0 hz1 hz2 rfl (by decide) _ _ _ rfl (HOWN.out.alloc _) ⟨wr.heap.size, 0, none⟩ 1 1 [.int .u8 y] rfl rfl ?c1 ?c2 ?c3 ?c4 ?c5 ?_)
      case c1 =>
        intro j u hj
        match j, hj with
        | 0, hj => simp at hj; subst hj; simp [Addr.add]
      case c2 => intro u hu; simp at hu; subst hu; rfl
      case c3 => unfold maxLen; omega
      case c4 => omega
      case c5 => simp; omega
      intro v' w1 hown' hgrow _
      have hb1 : Below w.heap.size w w1 := (HB.out.alloc hsz _).grown hgrow (by simp; omega) (fun j e => (HLT.out j e).1)
      have HO1 : Hid (w1.ownsRow w.heap.size 5 1 v' (k + 1) (((byte8 a).take (k + 1)).map encB)) := by
        rw [Hid, HTS.out, List.map_append, List.map_cons, HE.out, List.map_take]; exact hown'
      clear hgrow hown' HOWN HB HLT hx
      go_wp2_with fail
      go_roundw
      case rel => exact ⟨k + 1, by omega, by go_num, HO1.out, hb1⟩
      case measure => simp [intOf]; omega
    · have hk8 : k = 8 := by omega
      subst hk8
      rw [List.take_of_length_le (by rw [byte8_length]; omega)] at hown
      obtain ⟨g, cap, rfl⟩ := ownsRow_succ hown
      obtain ⟨A', cc, e, h8c, hcm⟩ := owns_slice hown
      injection e with eA _ e
      subst eA
      subst e
      have HR := Lib.hid (row_of_own hown)
      have hg := (hown.lt g rfl)
      have HB := Lib.hid hb
      have HCF := Lib.hid (fun A cc W => AnyE.slices_ContainsFunc_empty Try.containsByte A cc (.func (.func 36) #[] #[]) W)
      clear hown hb
      by_cases hcap : cap = 8
      · subst hcap
        go_wp2_with fail
        rw [rounds_succ]
        go_wp2_with (first | go_step3 | (go_at_call 35; refine (HCF.out _ _ _).mono ?_; rintro e w' ⟨rfl, rfl⟩))
        rw [Exit.noGoto_ret]
        go_ret2
        exact ⟨g, rfl, hg.1, HR.out, HB.out⟩
      · have hc2 : (cap == 8) = false := by rw [beq_eq_false_iff_ne]; exact hcap
        have hc3 : ¬ cap ≤ 8 := by omega
        go_wp2_with fail
        rw [rounds_succ]
        go_wp2_with (first | go_step3 | (go_at_call 35; refine (HCF.out _ _ _).mono ?_; rintro e w' ⟨rfl, rfl⟩))
        rw [Exit.noGoto_ret]
        go_ret2
        exact ⟨g, rfl, hg.1, HR.out, HB.out⟩
end Go.Proofs.Ytgkmcooahjoagaa
