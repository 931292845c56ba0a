import Derived.Test.YtdpooagnbmpinaaGreatDoorZQ1
import Derived.Laws.BitsAllLaws
import Derived.Laws.ShiftsVarLaws
import Derived.Deep.RegionHeld3
import Derived.Test.YtdpooagnbmpinaaGreatDoorShelf
namespace Go.Proofs.YtdpooagnbmpinaaGreatDoor
section
open Go.RowKit
def encFd (f d : Nat) : Value := .agg #[.int .i64 f,.int .i64 d]
set_option maxRecDepth 100000 in
theorem spanRight_any (f d : Nat) (W : World) (hf : f < 64) (hd : 1 <= d) (hd2 : d + f <= 64) :
  Calls Tryz.prog 234 #[encFd f d] W fun e W' => e = .returned (.bool true) ∧ Below W.heap.size W W' := by
 have h1 : (0 : Int) <= (f : Int) := by omega
 have h2 : (f : Int) < 64 := by omega
 have h3 : (1 : Int) <= (d : Int) := by omega
 have h4 : IntKind.i64.wrap (64 - (f : Int)) = 64 - (f : Int) := IntWalk.i64_in _ (by omega)
 have h5 : (d : Int) <= 64 - (f : Int) := by omega
 unfold encFd
 go_enter Tryz.func234,Tryz.ntmps234
 go_wp2
 go_ret
 exact ⟨rfl,(Below.refl _ _).alloc (Nat.le_refl _) _⟩
theorem low_mask {d : Nat} (hd : d <= 64) : (18446744073709551615 : Int) / 2 ^ (64 - d) = ((2 ^ d - 1 : Nat) : Int) := by
 have h2 : ((2 : Int) ^ (64 - d)) = ((2 ^ (64 - d) : Nat) : Int) := by simp
 have h3 : (18446744073709551615 : Int) = ((18446744073709551615 : Nat) : Int) := rfl
 rw [h2,h3,<- Int.natCast_ediv]
 congr 1
 have hp : 2 ^ d * 2 ^ (64 - d) = 18446744073709551616 := by rw [<- Nat.pow_add,show d + (64 - d) = 64 by omega]
 have hq : 0 < 2 ^ (64 - d) := Nat.pow_pos (by decide)
 have hd1 : 1 <= 2 ^ d := Nat.pow_pos (by decide)
 generalize 2 ^ (64 - d) = q at *
 generalize 2 ^ d = r at *
 obtain ⟨s,rfl⟩ : ∃ s,r = s + 1 := ⟨r - 1,by omega⟩
 rw [Nat.add_mul,Nat.one_mul] at hp
 rw [Nat.add_sub_cancel]
 refine Nat.div_eq_of_lt_le ?_ ?_
 ·omega
 ·rw [Nat.add_mul,Nat.one_mul];omega
theorem high_mask {f d : Nat} (hd : d + f <= 64) : IntKind.u64.wrap (((2 ^ d - 1 : Nat) : Int) * 2 ^ f) = (((2 ^ d - 1) * 2 ^ f : Nat) : Int) := by
 have h2 : ((2 : Int) ^ f) = ((2 ^ f : Nat) : Int) := by simp
 rw [h2,<- Int.natCast_mul]
 have hp : 2 ^ d * 2 ^ f <= 18446744073709551616 := by rw [<- Nat.pow_add];exact Nat.pow_le_pow_right (n := 2) (j := 64) (by decide) hd
 have hf : 1 <= 2 ^ f := Nat.pow_pos (by decide)
 have hlt : (2 ^ d - 1) * 2 ^ f < 18446744073709551616 := by rw [Nat.sub_mul];omega
 exact IntWalk.u64_in _ (by omega)
set_option maxRecDepth 100000 in
theorem masks_any (f d : Nat) (W : World) (hf : f < 64) (hd : 1 <= d) (hd2 : d + f <= 64) :
  Calls Tryz.prog 235 #[encFd f d] W fun e W' => e = .returned (.agg #[.int .u64 (2 ^ d - 1 : Nat),.int .u64 ((2 ^ d - 1) * 2 ^ f : Nat)]) ∧ Below W.heap.size W W' := by
 have h4 : IntKind.i64.wrap (64 - (d : Int)) = ((64 - d : Nat) : Int) := by rw [IntWalk.i64_in _ (by omega)];omega
 have hm := low_mask (d := d) (by omega)
 have hh := high_mask hd2
 generalize 2 ^ d - 1 = a at *
 generalize a * 2 ^ f = b at *
 unfold encFd
 go_enter Tryz.func235,Tryz.ntmps235
 go_wp2
 refine bodyPost_ret (v := .agg #[.int .u64 (a : Nat),.int .u64 (b : Nat)]) (by simp [results,Tryz.results235,go_sem]) rfl ⟨rfl,?_⟩
 exact ((Below.refl _ _).alloc (Nat.le_refl _) _).alloc (by simp) _
theorem index0 (a b : Value) (W : World) : (Instr.index 303 (.agg #[a,b]) (.int .i64 0)).run Tryz.prog W = .ok a W := by kernel_rfl
theorem index1 (a b : Value) (W : World) : (Instr.index 303 (.agg #[a,b]) (.int .i64 1)).run Tryz.prog W = .ok b W := by kernel_rfl
def fieldN (x f d : Nat) : Nat := x / 2 ^ f % 2 ^ d
theorem and_mask {y d : Nat} (hy : y < 18446744073709551616) (hd : d <= 64) : bits .and .u64 (y : Int) ((2 ^ d - 1 : Nat) : Int) = ((y % 2 ^ d : Nat) : Int) := by
 have hp : 2 ^ d <= 18446744073709551616 := Nat.pow_le_pow_right (n := 2) (j := 64) (by decide) hd
 have h1 : 1 <= 2 ^ d := Nat.pow_pos (by decide)
 rw [u64_and_nat y (2 ^ d - 1) hy (by omega),Nat.and_two_pow_sub_one_eq_mod]
theorem div_pow (x f : Nat) : ((x : Int) / 2 ^ f) = ((x / 2 ^ f : Nat) : Int) := by
 have h2 : ((2 : Int) ^ f) = ((2 ^ f : Nat) : Int) := by simp
 rw [h2,<- Int.natCast_ediv]
set_option maxRecDepth 100000 in
set_option maxHeartbeats 1000000 in
theorem fieldOf_any (x f d : Nat) (W : World) (hx : x < 18446744073709551616) (hf : f < 64) (hd : 1 <= d) (hd2 : d + f <= 64) :
  Calls Tryz.prog 236 #[encFd f d,.int .u64 x] W fun e W' => e = .returned (.int .u64 (fieldN x f d : Nat)) ∧ Below W.heap.size W W' := by
 have HM := Lib.hid (fun W => masks_any f d W hf hd hd2)
 have hdv := div_pow x f
 have hlt : x / 2 ^ f < 18446744073709551616 := Nat.lt_of_le_of_lt (Nat.div_le_self _ _) hx
 have ha := and_mask hlt (show d <= 64 by omega)
 have HF : Hid (fieldN x f d = x / 2 ^ f % 2 ^ d) := rfl
 generalize x / 2 ^ f = y at *
 generalize y % 2 ^ d = r at *
 generalize 2 ^ d - 1 = m at *
 have hf0 : (0 : Int) <= (f : Int) := Int.natCast_nonneg _
 have hix := index0
 unfold encFd at *
 go_enter Tryz.func236,Tryz.ntmps236
 go_wp2_with fail
 have hb0 : Below W.heap.size W (W.alloc (.cells #[.int .i64 f,.int .i64 d] 302)) := (Below.refl _ _).alloc (Nat.le_refl _) _
 have HS : Hid (∀ w1,Below (W.heap.size + 1) (W.alloc (.cells #[.int .i64 f,.int .i64 d] 302)) w1 -> w1.cell? ⟨W.heap.size,0,none⟩ = some (.int .i64 f) ∧ w1.cell? ⟨W.heap.size,1,none⟩ = some (.int .i64 d)) := fun w1 hw =>
  ⟨(hw.cell (p := ⟨W.heap.size,0,none⟩) (Nat.lt_succ_self _)).trans (by simp),(hw.cell (p := ⟨W.heap.size,1,none⟩) (Nat.lt_succ_self _)).trans (by simp)⟩
 go_region_held3 (fun w1 => w1.cell? ⟨W.heap.size,0,none⟩ = some (.int .i64 f) ∧ w1.cell? ⟨W.heap.size,1,none⟩ = some (.int .i64 d))
  (first | exact HS.out _ (Below.refl _ _).drew | exact HS.out _ (by assumption) | go_keep)
  ((go_at_call 235;refine (HM.out _).mono ?_;rintro e w2 ⟨rfl,hb2⟩;have hb3 : Below (W.heap.size + 1) (W.alloc (.cells #[.int .i64 f,.int .i64 d] 302)) w2 := (Below.refl _ _).drew.trans (hb2.mono (by simp))))
 all_goals
  go_wp2_with fail
  go_ret
  exact ⟨by rw [HF.out];rfl,hb0.trans (hb3.mono (by omega))⟩
set_option maxRecDepth 100000 in
set_option maxHeartbeats 1000000 in
theorem wordGet_any (x f d : Nat) (W : World) (hx : x < 18446744073709551616) (hf : f < 64) (hd : 1 <= d) (hd2 : d + f <= 64) :
  Calls Tryz.prog 203 #[.int .u64 x,encFd f d] W fun e W' => e = .returned (.tuple #[.int .u64 (fieldN x f d : Nat),.int .i64 0]) ∧ Below W.heap.size W W' := by
 have HRT := Lib.hid (fun W => spanRight_any f d W hf hd hd2)
 have HOF := Lib.hid (fun W => fieldOf_any x f d W hx hf hd hd2)
 generalize fieldN x f d = r at *
 unfold encFd at *
 go_enter Tryz.func203,Tryz.ntmps203
 go_wp2_with fail
 refine (HRT.out _).mono ?_
 rintro e w2 ⟨rfl,hb2⟩
 have hb0 : Below W.heap.size W ((W.alloc (.cells #[.int .i64 f,.int .i64 d] 209)).alloc (.cells #[.int .i64 f,.int .i64 d] 302)) := ((Below.refl _ _).alloc (Nat.le_refl _) _).alloc (by simp) _
 have hb1 : Below W.heap.size W w2 := hb0.trans (hb2.mono hb0.size)
 have c0 : w2.cell? ⟨W.heap.size + 1,0,none⟩ = some (.int .i64 f) := (hb2.cell (p := ⟨W.heap.size + 1,0,none⟩) (by simp)).trans (by simp)
 have c1 : w2.cell? ⟨W.heap.size + 1,1,none⟩ = some (.int .i64 d) := (hb2.cell (p := ⟨W.heap.size + 1,1,none⟩) (by simp)).trans (by simp)
 go_wp2_with fail
 refine (HOF.out _).mono ?_
 rintro e w3 ⟨rfl,hb3⟩
 go_wp2_with fail
 go_ret2
 exact ⟨rfl,hb1.trans (hb3.mono hb1.size)⟩
end
section
open Go.RowKit Go.Shelf
theorem field_low {x : Nat} (d : Nat) : fieldN x 0 d = x % 2 ^ d := by unfold fieldN;rw [Nat.pow_zero,Nat.div_one]
def smallI (x : Nat) : Int := if x < 1048576 then x else -1
set_option maxRecDepth 100000 in
set_option maxHeartbeats 1000000 in
theorem small_any (x : Nat) (W : World) (hx : x < 18446744073709551616) :
  Calls Tryz.prog 205 #[.int .u64 x] W fun e W' => e = .returned (.int .i64 (smallI x)) ∧ Below W.heap.size W W' := by
 have HG := Lib.hid (fun W => wordGet_any x 0 20 W hx (by decide) (by decide) (by decide))
 rw [field_low,show (2 : Nat) ^ 20 = 1048576 from rfl] at HG
 by_cases h : x < 1048576
 ·have HS : Hid (smallI x = (x : Int)) := if_pos h
  have hq : ((x : Int) != (x : Int)) = false := by simp
  have hu : IntKind.i64.wrap (x : Int) = (x : Int) := IntWalk.i64_in _ (by omega)
  rw [Nat.mod_eq_of_lt h] at HG
  go_enter Tryz.func205,Tryz.ntmps205
  go_wp2_with (go_at_call 203;refine (HG.out _).mono ?_;rintro e w2 ⟨rfl,hb2⟩)
  go_ret
  exact ⟨by rw [HS.out];rfl,hb2⟩
 ·have HS : Hid (smallI x = -1) := if_neg h
  have hlt : x % 1048576 < 1048576 := Nat.mod_lt _ (by decide)
  obtain ⟨y,hy⟩ : ∃ y,x % 1048576 = y := ⟨_,rfl⟩
  rw [hy] at HG hlt
  have hq : ((y : Int) != (x : Int)) = true := by rw [bne_iff_ne];omega
  clear hy
  go_enter Tryz.func205,Tryz.ntmps205
  go_wp2_with (go_at_call 203;refine (HG.out _).mono ?_;rintro e w2 ⟨rfl,hb2⟩)
  go_ret
  exact ⟨by rw [HS.out];rfl,hb2⟩
theorem kindField_any (W : World) : Calls Tryz.prog 204 #[] W fun e W' => e = .returned (encFd 0 8) ∧ Below W.heap.size W W' := by
 go_enter Tryz.func204,Tryz.ntmps204
 go_wp2
 refine bodyPost_ret (v := .agg #[.int .i64 0,.int .i64 8]) (by simp [results,Tryz.results204,go_sem]) rfl ⟨rfl,?_⟩
 exact (Below.refl _ _).alloc (Nat.le_refl _) _
theorem linksField_any (W : World) : Calls Tryz.prog 201 #[] W fun e W' => e = .returned (encFd 8 56) ∧ Below W.heap.size W W' := by
 go_enter Tryz.func201,Tryz.ntmps201
 go_wp2
 refine bodyPost_ret (v := .agg #[.int .i64 8,.int .i64 56]) (by simp [results,Tryz.results201,go_sem]) rfl ⟨rfl,?_⟩
 exact (Below.refl _ _).alloc (Nat.le_refl _) _
def badPtr (least n : Int) : Bool := decide (n < least) || decide (1024 <= n)
set_option maxRecDepth 100000 in
theorem pointers1_any (n least : Int) (B : Nat) (W : World) (hc : W.cell? ⟨B,0,none⟩ = some (.int .i64 least)) :
  Calls Tryz.prog 233 #[.int .i64 n,.pointer (some ⟨B,0,none⟩)] W fun e W' => e = .returned (.bool (badPtr least n)) ∧ W' = W := by
 have HB : Hid (badPtr least n = (decide (n < least) || decide (1024 <= n))) := rfl
 by_cases h1 : n < least
 ·go_enter Tryz.func233,Tryz.ntmps233
  go_wp2
  go_ret
  exact ⟨by rw [HB.out];simp [h1],rfl⟩
 ·by_cases h2 : 1024 <= n
  all_goals
   go_enter Tryz.func233,Tryz.ntmps233
   go_wp2
   go_ret
   exact ⟨by rw [HB.out];simp [h1,h2],rfl⟩
set_option maxRecDepth 100000 in
theorem pointers_any (least t : Int) (b : Nat) (W : World) (hb : b < W.heap.size) (hc : W.cell? ⟨b,0,none⟩ = some (.int .i64 t)) :
  Calls Tryz.prog 198 #[.int .i64 least,.slice (some ⟨b,0,none⟩) 1 1] W fun e W' => e = .returned (.bool (!badPtr least t)) ∧ Below W.heap.size W W' := by
 have hb0 : Below W.heap.size W (W.alloc (.cells #[.int .i64 least] 3)) := (Below.refl _ _).alloc (Nat.le_refl _) _
 have hC := AnyE.slices_ContainsFunc Tryz.containsInt (enc := fun n : Int => .int .i64 n) (badPtr least) 233 #[.pointer (some ⟨W.heap.size,0,none⟩)] (enters_of Tryz.func233 (by kernel_rfl) rfl)
  b 0 1 1 [t] (W.alloc (.cells #[.int .i64 least] 3))
  (fun W1 x hW => by
   refine (pointers1_any x least W.heap.size W1 ?_).mono ?_
   ·exact (hW.cell (p := ⟨W.heap.size,0,none⟩) (by simp)).trans (by simp)
   ·rintro e w' ⟨rfl,rfl⟩
    exact ⟨rfl,0,rfl⟩)
  (by simp) (by omega)
  (fun j hj => by
   have : j = 0 := by simp at hj;omega
   subst this
   exact (hb0.cell (p := ⟨b,0,none⟩) hb).trans hc)
 have e1 : ([t].take 1).any (badPtr least) = badPtr least t := by simp
 rw [e1] at hC
 have HC := Lib.hid hC
 clear hC e1
 generalize badPtr least t = q at *
 go_enter Tryz.func198,Tryz.ntmps198
 go_wp2_with (go_at_call 170;refine HC.out.mono ?_;rintro e w' ⟨rfl,k,rfl⟩)
 go_ret
 exact ⟨rfl,below_drewN hb0 k⟩
end
section
open Go.RowKit
theorem put_word (x n : Nat) (hx : x < 256) (hn : n < 72057594037927936) : bits .or .u64 (bits .andNot .u64 (x : Int) (18446744073709551360 : Nat)) (IntKind.u64.wrap ((n : Int) * 256)) = ((x + 256 * n : Nat) : Int) := by
 rw [u64_andNot_nat x 18446744073709551360 (by omega) (by decide),show 18446744073709551615 - 18446744073709551360 = 255 from rfl,nat_mask8,Nat.mod_eq_of_lt hx]
 have e : IntKind.u64.wrap ((n : Int) * 256) = ((n * 256 : Nat) : Int) := by
  have : ((n : Int) * 256) = ((n * 256 : Nat) : Int) := by omega
  rw [this]
  exact IntWalk.u64_in _ (by omega)
 rw [e,u64_or_nat x (n * 256) (by omega) (by omega),Nat.or_comm,nat_join 8 (n * 256) x (by omega) (by omega)]
 congr 1
 omega
theorem cell_two (W : World) (o o' : Obj) (i : Nat) : ((W.alloc o).alloc o').cell? ⟨W.heap.size,i,none⟩ = (W.alloc o).cell? ⟨W.heap.size,i,none⟩ :=
 ((Below.refl (W.heap.size + 1) (W.alloc o)).alloc (by simp) o').cell (p := ⟨W.heap.size,i,none⟩) (Nat.lt_succ_self _)
set_option maxRecDepth 100000 in
set_option maxHeartbeats 2000000 in
theorem wordPut_any (x n : Nat) (W : World) (hx : x < 256) (hn : n < 72057594037927936) :
  Calls Tryz.prog 200 #[.int .u64 x,encFd 8 56,.int .u64 n] W fun e W' => e = .returned (.tuple #[.int .u64 (x + 256 * n : Nat),.int .i64 0]) ∧ Below W.heap.size W W' := by
 have HRT := Lib.hid (fun W => spanRight_any 8 56 W (by decide) (by decide) (by decide))
 have HM := Lib.hid (fun W => masks_any 8 56 W (by decide) (by decide) (by decide))
 rw [show (2 ^ 56 - 1) * 2 ^ 8 = 18446744073709551360 from rfl,show 2 ^ 56 - 1 = 72057594037927935 from rfl] at HM
 have hpw := put_word x n hx hn
 have e1 : ((72057594037927935 : Nat) : Int) = 72057594037927935 := rfl
 have e2 : ((18446744073709551360 : Nat) : Int) = 18446744073709551360 := rfl
 rw [e1,e2] at HM
 rw [e2] at hpw
 clear e1 e2
 have hgt : ¬ (72057594037927935 : Int) < (n : Int) := by omega
 have hix := index0
 have hiy := index1
 generalize x + 256 * n = r at *
 unfold encFd at *
 go_enter Tryz.func200,Tryz.ntmps200
 go_wp2_with fail
 apply wp_scope_straight
 go_wp2_with go_step3
 refine (HRT.out _).mono ?_
 rintro e w2 ⟨rfl,hb2⟩
 have hb0 : Below W.heap.size W ((W.alloc (.cells #[.int .i64 8,.int .i64 56] 209)).alloc (.cells #[.int .i64 8,.int .i64 56] 302)) := ((Below.refl _ _).alloc (Nat.le_refl _) _).alloc (by simp) _
 have HS : Hid (∀ w1,Below w2.heap.size w2 w1 -> w1.cell? ⟨W.heap.size + 1,0,none⟩ = some (.int .i64 8) ∧ w1.cell? ⟨W.heap.size + 1,1,none⟩ = some (.int .i64 56) ∧ w1.cell? ⟨W.heap.size,0,none⟩ = some (.int .i64 8)) := fun w1 hw => by
  have hs := hb2.size
  simp at hs
  exact ⟨(hw.cell (p := ⟨W.heap.size + 1,0,none⟩) (by show W.heap.size + 1 < _;omega)).trans ((hb2.cell (p := ⟨W.heap.size + 1,0,none⟩) (by simp)).trans (by simp)),
   (hw.cell (p := ⟨W.heap.size + 1,1,none⟩) (by show W.heap.size + 1 < _;omega)).trans ((hb2.cell (p := ⟨W.heap.size + 1,1,none⟩) (by simp)).trans (by simp)),
   (hw.cell (p := ⟨W.heap.size,0,none⟩) (by show W.heap.size < _;omega)).trans ((hb2.cell (p := ⟨W.heap.size,0,none⟩) (by simp;omega)).trans ((cell_two W _ _ 0).trans (by simp)))⟩
 have HB1 : Hid (Below W.heap.size W w2) := hb0.trans (hb2.mono hb0.size)
 clear hb2 hb0
 obtain ⟨c0,c1,c2⟩ := HS.out w2 (Below.refl _ _)
 go_wp2_with (first | go_step3 | (go_at_call 235;refine (HM.out _).mono ?_;rintro e w3 ⟨rfl,hb3⟩;clear c0 c1 c2;obtain ⟨c0,c1,c2⟩ := HS.out w3 hb3))
 have HS3 : Hid (∀ w1,Below w3.heap.size w3 w1 -> w1.cell? ⟨W.heap.size + 1,0,none⟩ = some (.int .i64 8) ∧ w1.cell? ⟨W.heap.size + 1,1,none⟩ = some (.int .i64 56) ∧ w1.cell? ⟨W.heap.size,0,none⟩ = some (.int .i64 8)) := fun w1 hw => HS.out w1 (below_trans hb3 hw)
 have HB2 : Hid (Below W.heap.size W w3) := below_trans HB1.out hb3
 clear c0 c1 c2 hb3
 go_region_held3 (fun w1 => w1.cell? ⟨W.heap.size + 1,0,none⟩ = some (.int .i64 8) ∧ w1.cell? ⟨W.heap.size + 1,1,none⟩ = some (.int .i64 56) ∧ w1.cell? ⟨W.heap.size,0,none⟩ = some (.int .i64 8))
  (first | exact HS3.out _ (Below.refl _ _).drew | exact HS3.out _ (by assumption))
  ((go_at_call 235;refine (HM.out _).mono ?_;rintro e w4 ⟨rfl,hb4⟩;have hb5 : Below w3.heap.size w3 w4 := (Below.refl _ _).drew.trans hb4))
 all_goals
  go_wp2_with go_step3
  rw [Exit.noGoto_ret]
  go_ret2
  exact ⟨rfl,below_trans HB2.out hb5⟩
end
section
open Go.RowKit
def encLn (k t : Nat) : Value := .agg #[.int .u64 k,.int .u64 t,.int .u64 0,.int .u64 0,.int .u64 0,.int .u64 0,.int .u64 0,.int .u64 0]
def encN (k l t : Int) : Value := .agg #[.int .i64 k,.int .i64 l,.int .i64 t]
def nodeRight (k l t : Int) : Bool := ((k == 1) || ((k == 2) && (l == 1))) && decide (1 <= l) && decide (l <= 200) && !badPtr 1 t
set_option maxRecDepth 100000 in
set_option maxHeartbeats 2000000 in
theorem nodeRight_any (k l t : Int) (W : World) :
  Calls Tryz.prog 197 #[encN k l t] W fun e W' => e = .returned (.bool (nodeRight k l t)) ∧ Below W.heap.size W W' := by
 have hP := pointers_any 1 t (W.heap.size + 1) ((W.alloc (.cells #[.int .i64 k,.int .i64 l,.int .i64 t] 46)).alloc (.cells #[.int .i64 t] 3)) (by simp) (by simp)
 have hbA : Below W.heap.size W ((W.alloc (.cells #[.int .i64 k,.int .i64 l,.int .i64 t] 46)).alloc (.cells #[.int .i64 t] 3)) := ((Below.refl _ _).alloc (Nat.le_refl _) _).alloc (by simp) _
 have HP := Lib.hid hP
 have HN : Hid (nodeRight k l t = (((k == 1) || ((k == 2) && (l == 1))) && decide (1 <= l) && decide (l <= 200) && !badPtr 1 t)) := rfl
 have hb0 : Below W.heap.size W (W.alloc (.cells #[.int .i64 k,.int .i64 l,.int .i64 t] 46)) := (Below.refl _ _).alloc (Nat.le_refl _) _
 clear hP
 generalize badPtr 1 t = q at *
 unfold encN
 have hcase : ((k == 1) = true ∧ ¬ 1 <= l ∧ Hid (nodeRight k l t = false)) ∨ ((k == 1) = true ∧ 1 <= l ∧ ¬ l <= 200 ∧ Hid (nodeRight k l t = false)) ∨ ((k == 1) = true ∧ 1 <= l ∧ l <= 200 ∧ Hid (nodeRight k l t = !q)) ∨
   ((k == 1) = false ∧ (k == 2) = true ∧ (l == 1) = true ∧ 1 <= l ∧ l <= 200 ∧ Hid (nodeRight k l t = !q)) ∨ ((k == 1) = false ∧ (k == 2) = true ∧ (l == 1) = false ∧ Hid (nodeRight k l t = false)) ∨ ((k == 1) = false ∧ (k == 2) = false ∧ Hid (nodeRight k l t = false)) := by
  unfold Hid
  rw [HN.out]
  by_cases h1 : k = 1
  ·by_cases h2 : 1 <= l <;> by_cases h3 : l <= 200 <;> simp [h1,h2,h3]
  ·by_cases h2 : k = 2
   ·by_cases h3 : l = 1
    ·subst h3;simp [h2]
    ·simp [h2,h3]
   ·simp [h1,h2]
 clear HN
 rcases hcase with ⟨h1,h2,HR⟩ | ⟨h1,h2,h3,HR⟩ | ⟨h1,h2,h3,HR⟩ | ⟨h1,h2,h3,h4,h5,HR⟩ | ⟨h1,h2,h3,HR⟩ | ⟨h1,h2,HR⟩
 all_goals
  go_enter Tryz.func197,Tryz.ntmps197
  go_wp2_with (go_at_call 198;refine HP.out.mono ?_;rintro e w' ⟨rfl,hb1⟩)
  go_ret
  exact ⟨by rw [HR.out];rfl,by first | exact hb0 | exact below_trans hbA hb1⟩
end
section
open Go.RowKit
set_option maxRecDepth 100000 in
set_option maxHeartbeats 4000000 in
theorem nodeRead_any (k t : Nat) (W : World) (hk : k < 18446744073709551616) (ht : t < 18446744073709551616) :
  Calls Tryz.prog 202 #[encLn k t] W fun e W' => e = .returned (encN (k % 256 : Nat) (smallI (k / 256)) (smallI t)) ∧ Below W.heap.size W W' := by
 have HKF := Lib.hid kindField_any
 have HLF := Lib.hid linksField_any
 have HG1 := Lib.hid (fun W => wordGet_any k 0 8 W hk (by decide) (by decide) (by decide))
 have HG2 := Lib.hid (fun W => wordGet_any k 8 56 W hk (by decide) (by decide) (by decide))
 have e8 : fieldN k 0 8 = k % 256 := by rw [field_low]
 have e56 : fieldN k 8 56 = k / 256 := by
  unfold fieldN
  rw [show (2 : Nat) ^ 8 = 256 from rfl,show (2 : Nat) ^ 56 = 72057594037927936 from rfl]
  exact Nat.mod_eq_of_lt (by omega)
 rw [e8] at HG1
 rw [e56] at HG2
 have HS1 := Lib.hid (fun W => small_any (k / 256) W (by omega))
 have HS2 := Lib.hid (fun W => small_any t W ht)
 have hk8 : k % 256 < 256 := Nat.mod_lt _ (by decide)
 have hu : IntKind.i64.wrap ((k % 256 : Nat) : Int) = ((k % 256 : Nat) : Int) := IntWalk.i64_in _ (by omega)
 generalize smallI (k / 256) = l at *
 generalize smallI t = s at *
 generalize k / 256 = d at *
 obtain ⟨m,hm⟩ : ∃ m,k % 256 = m := ⟨_,rfl⟩
 rw [hm] at HG1 hu
 rw [hm]
 clear hm hk8 e8 e56
 unfold encFd at *
 unfold encLn encN
 go_enter Tryz.func202,Tryz.ntmps202
 go_wp2_with fail
 obtain ⟨W0,hW0⟩ : ∃ W0,(W.alloc (.cells #[.int .u64 k,.int .u64 t,.int .u64 0,.int .u64 0,.int .u64 0,.int .u64 0,.int .u64 0,.int .u64 0] 274)).alloc (.cells #[.int .i64 0,.int .i64 0,.int .i64 0] 46) = W0 := ⟨_,rfl⟩
 have hsz0 : W.heap.size + 2 <= W0.heap.size := by rw [<- hW0];simp
 have hbW : Below W.heap.size W W0 := by rw [<- hW0];exact ((Below.refl _ _).alloc (Nat.le_refl _) _).alloc (by simp) _
 have HS0 : Hid (∀ w1,Below (W.heap.size + 1) W0 w1 -> w1.cell? ⟨W.heap.size,0,none⟩ = some (.int .u64 k) ∧ w1.cell? ⟨W.heap.size,1,none⟩ = some (.int .u64 t)) := fun w1 hw => by
  refine ⟨(hw.cell (p := ⟨W.heap.size,0,none⟩) (by show W.heap.size < _;omega)).trans ?_,(hw.cell (p := ⟨W.heap.size,1,none⟩) (by show W.heap.size < _;omega)).trans ?_⟩
  ·rw [<- hW0,cell_two];simp
  ·rw [<- hW0,cell_two];simp
 have HS1' : Hid (∀ w1,Below (W.heap.size + 2) W0 w1 -> (∀ i,i < 3 -> w1.cell? ⟨W.heap.size + 1,i,none⟩ = some (.int .i64 0)) ∧ ∀ i,w1.frozen? ⟨W.heap.size + 1,i,none⟩ = false) := fun w1 hw => by
  refine ⟨fun i hi => (hw.cell (p := ⟨W.heap.size + 1,i,none⟩) (by show W.heap.size + 1 < _;omega)).trans ?_,fun i => (hw.frozen (p := ⟨W.heap.size + 1,i,none⟩) (by show W.heap.size + 1 < _;omega)).trans ?_⟩
  ·rw [<- hW0]
   match i,hi with
   | 0,_ => simp
   | 1,_ => simp
   | 2,_ => simp
  ·rw [<- hW0];simp
 rw [hW0]
 have hbz : Below (W.heap.size + 2) W0 W0.drew := (Below.refl _ _).drew
 clear hW0
 go_region_held3 (fun w1 => w1.cell? ⟨W.heap.size,0,none⟩ = some (.int .u64 k) ∧ w1.cell? ⟨W.heap.size,1,none⟩ = some (.int .u64 t))
  (first | exact HS0.out _ (hbz.mono (Nat.le_succ _)) | assumption)
  ((first
   | (go_at_call 204;refine (HKF.out _).mono ?_;rintro e w2 ⟨rfl,hb2⟩;have hbz := hbz.trans (hb2.mono (Nat.le_trans hsz0 hbz.size)))
   | (go_at_call 203;refine (HG1.out _).mono ?_;rintro e w2 ⟨rfl,hb2⟩;have hbz := hbz.trans (hb2.mono (Nat.le_trans hsz0 hbz.size)))))
 all_goals
  go_wp2_with fail
  have hbz := hbz.drew
  go_region_held3 (fun w1 => w1.cell? ⟨W.heap.size,0,none⟩ = some (.int .u64 k) ∧ w1.cell? ⟨W.heap.size,1,none⟩ = some (.int .u64 t))
   (first | exact HS0.out _ (hbz.mono (Nat.le_succ _)) | assumption)
   ((first
    | (go_at_call 201;refine (HLF.out _).mono ?_;rintro e w2 ⟨rfl,hb2⟩;have hbz := hbz.trans (hb2.mono (Nat.le_trans hsz0 hbz.size)))
    | (go_at_call 203;refine (HG2.out _).mono ?_;rintro e w2 ⟨rfl,hb2⟩;have hbz := hbz.trans (hb2.mono (Nat.le_trans hsz0 hbz.size)))))
 all_goals
  go_wp2_with fail
  have hbz := hbz.drew
  go_region_held3 (fun w1 => w1.cell? ⟨W.heap.size,0,none⟩ = some (.int .u64 k) ∧ w1.cell? ⟨W.heap.size,1,none⟩ = some (.int .u64 t))
   (first | exact HS0.out _ (hbz.mono (Nat.le_succ _)) | assumption | exact HS0.out _ ((((hbz.mono (Nat.le_succ _)).setCell (p := ⟨W.heap.size + 1,0,none⟩) (Nat.le_refl _) _).setCell (p := ⟨W.heap.size + 1,1,none⟩) (Nat.le_refl _) _).setCell (p := ⟨W.heap.size + 1,2,none⟩) (Nat.le_refl _) _))
   ((go_at_call 205;first
    | (with_reducible refine (HS1.out _).mono ?_;rintro e w2 ⟨rfl,hb2⟩;have hbz := hbz.trans (hb2.mono (Nat.le_trans hsz0 hbz.size)))
    | (with_reducible refine (HS2.out _).mono ?_;rintro e w2 ⟨rfl,hb2⟩;have hbz := hbz.trans (hb2.mono (Nat.le_trans hsz0 hbz.size));obtain ⟨r,fz⟩ := HS1'.out _ hbz;have r0 := r 0 (by decide);have r1 := r 1 (by decide);have r2 := r 2 (by decide);have z0 := fz 0;have z1 := fz 1;have z2 := fz 2;clear r fz)))
 all_goals
  have hbF : Below W.heap.size W (((w2.setCell ⟨W.heap.size + 1,0,none⟩ (.int .i64 m)).setCell ⟨W.heap.size + 1,1,none⟩ (.int .i64 l)).setCell ⟨W.heap.size + 1,2,none⟩ (.int .i64 s)) :=
   (((hbW.trans (hbz.mono (by omega))).setCell (p := ⟨W.heap.size + 1,0,none⟩) (Nat.le_succ _) _).setCell (p := ⟨W.heap.size + 1,1,none⟩) (Nat.le_succ _) _).setCell (p := ⟨W.heap.size + 1,2,none⟩) (Nat.le_succ _) _
  go_wp2_with fail
  refine bodyPost_ret (v := .agg #[.int .i64 m,.int .i64 l,.int .i64 s]) (by simp [results,Tryz.results202,go_sem,r0,r1,r2]) rfl ⟨rfl,hbF⟩
end
end Go.Proofs.YtdpooagnbmpinaaGreatDoor
