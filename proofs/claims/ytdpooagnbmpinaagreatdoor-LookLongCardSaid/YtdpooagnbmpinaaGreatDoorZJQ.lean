import Derived.Test.YtdpooagnbmpinaaGreatDoorZJO
import Derived.Test.YtdpooagnbmpinaaGreatDoorZFD
namespace Go.Proofs.YtdpooagnbmpinaaGreatDoor
section
open Go.RowKit
attribute [local go_sem] Oper.semAt_some
end
section
open Go.RowKit
attribute [local go_sem] Oper.semAt_some
theorem make_words (N : Nat) (hN : N <= 100000) (W : World) : (Instr.makeSlice 23 (.int .i64 N) (.int .i64 N)).run Tryz.prog W = .ok (.slice (some ⟨W.heap.size,0,none⟩) N N) (W.alloc (.cells (madeCells #[.int .u64 0] N) 24)) := by
 obtain ⟨i0,hi,hz0,hz1,hz2⟩ := info_parts Tryz.infoU64
 have := run_make (P := Tryz.prog) W 23 24 i0 _ (by kernel_rfl) hi hz0 .i64 .i64 N N (by omega) (Int.le_refl _) (by rw [hz2];omega) (by omega)
 rw [this,hz1]
 simp [Value.cells]
def lngF (i j : Nat) : Nat := if j = 0 then 4 else if j = 1 then 258 else if j = 2 then 5 else if j < i then 9 else 0
def lngL (N : Nat) : List Nat := (List.range N).map (lngF N)
theorem lngL_length (N : Nat) : (lngL N).length = N := by simp [lngL]
theorem lngL_lt {N : Nat} : ∀ x ∈ lngL N,x < 18446744073709551616 := fun x hx => by
 obtain ⟨i,_,rfl⟩ := List.mem_map.1 hx
 unfold lngF
 repeat' split
 all_goals omega
set_option maxRecDepth 400000 in
set_option maxHeartbeats 4000000 in
theorem lookLong_out (e k : Int) (W : World) (h : e < -1 ∨ 1 < e ∨ k < 1 ∨ 3 < k) :
  Calls Tryz.prog 3 #[.int .i64 e,.int .i64 k] W fun e W' => e = .returned (.bool true) ∧ Below W.heap.size W W' := by
 have HK := Lib.hid works22_any
 have H : Hid (decide (e < (-1 : Int)) = true ∨ (decide (e < (-1 : Int)) = false ∧ decide ((1 : Int) < e) = true) ∨ (decide (e < (-1 : Int)) = false ∧ decide ((1 : Int) < e) = false ∧ decide (k < 1) = true) ∨ (decide (e < (-1 : Int)) = false ∧ decide ((1 : Int) < e) = false ∧ decide (k < 1) = false ∧ decide (3 < k) = true)) := by
  rw [Hid]
  by_cases h1 : e < -1
  ·exact .inl (decide_eq_true h1)
  ·by_cases h2 : 1 < e
   ·exact .inr (.inl ⟨decide_eq_false h1,decide_eq_true h2⟩)
   ·by_cases h3 : k < 1
    ·exact .inr (.inr (.inl ⟨decide_eq_false h1,decide_eq_false h2,decide_eq_true h3⟩))
    ·exact .inr (.inr (.inr ⟨decide_eq_false h1,decide_eq_false h2,decide_eq_false h3,decide_eq_true (by omega)⟩))
 clear h
 rcases H.out with h | ⟨h,h'⟩ | ⟨h,h',h2⟩ | ⟨h,h',h2,h3⟩
 all_goals
  go_enter Tryz.func3,Tryz.ntmps3
  go_wp2_with fail
  refine (HK.out _).mono ?_
  rintro e w1 ⟨rfl,hb1⟩
  go_wp2_with fail
  go_ret
  exact ⟨rfl,hb1⟩
set_option maxRecDepth 400000 in
set_option maxHeartbeats 8000000 in
theorem lookLong_in (e k : Int) (N : Nat) (l : LookP) (z : Int) (W : World) (hN : 20000 + e = (N : Int)) (h1 : 19999 <= N) (h2 : N <= 20001) (hk : 1 <= k ∧ k <= 3) (hz : (z = 0 ∧ N <= 20000) ∨ (z = 3 ∧ 20000 < N))
  (hA : ∀ A c W,RowAt W A ((lngL N).map encW) -> Calls Tryz.prog 8 #[opV k ⟨#[47]⟩ ⟨#[]⟩ 0 0 none 0 0,.slice A N c] W (LookR (l,z) W))
  (hB : ∀ A c W,RowAt W A ((lngL N).map encW) -> Calls Tryz.prog 9 #[opV k ⟨#[47]⟩ ⟨#[]⟩ 0 0 none 0 0,.slice A N c] W (LookR (l,z) W)) :
  Calls Tryz.prog 3 #[.int .i64 e,.int .i64 k] W fun e W' => e = .returned (.bool true) ∧ Below W.heap.size W W' := by
 have hk1 : decide (e < (-1 : Int)) = false := decide_eq_false (by omega)
 have hk2 : decide ((1 : Int) < e) = false := decide_eq_false (by omega)
 have hk3 : decide (k < 1) = false := decide_eq_false (by omega)
 have hk4 : decide (3 < k) = false := decide_eq_false (by omega)
 have hNw : IntKind.i64.wrap (20000 + e) = (N : Int) := by rw [hN];exact IntWalk.i64_in _ (by omega)
 have hmz := fun W => make_words N (by omega) W
 obtain ⟨w0,hw0⟩ : ∃ x,W.alloc (.cells (madeCells #[.int .u64 0] N) 24) = x := ⟨_,rfl⟩
 have hb0 : Below W.heap.size W w0 := by rw [<- hw0];exact (Below.refl _ _).alloc (Nat.le_refl _) _
 have hs0 : w0.heap.size = W.heap.size + 1 := by rw [<- hw0];simp
 have hc0 : CellsAt w0 W.heap.size N (fun _ => encW 0) := by rw [<- hw0];exact made_cells _ _ _ _ _ fun i _ => by simp [Nat.mod_one,encW]
 have HZ := Lib.hid hz
 have HNN := Lib.hid hN
 have HSM := Lib.hid (fun (NA NB BA BB : Option Addr) (nn nc bn bc mn mc cn cc b1 b2 : Nat) (W1 : World) (h1 : RowsAt b1 W1 l.res NA nn nc BA bn bc) (h2 : RowsAt b2 W1 l.res NB mn mc BB cn cc) => same22_any l NA NB BA BB nn nc bn bc mn mc cn cc b1 b2 W1 h1 h2)
 unfold opV at hA hB
 unfold lookV at HSM
 have HA := Lib.hid hA
 have HB := Lib.hid hB
 have HWK := Lib.hid works22_any
 have HNM := Lib.hid num22_any
 have HB0 := Lib.hid hb0
 have z0 : w0.cell? ⟨W.heap.size,0,none⟩ = some (.int .u64 0) := hc0.1 0 (by omega)
 have z1 : w0.cell? ⟨W.heap.size,1,none⟩ = some (.int .u64 0) := hc0.1 1 (by omega)
 have z2 : w0.cell? ⟨W.heap.size,2,none⟩ = some (.int .u64 0) := hc0.1 2 (by omega)
 have zf : ∀ i,w0.frozen? ⟨W.heap.size,i,none⟩ = false := hc0.2
 have n0 : (0 : Int) < (N : Int) := by omega
 have n1 : (1 : Int) < (N : Int) := by omega
 have n2 : (2 : Int) < (N : Int) := by omega
 have HC0 : Hid (CellsAt (((w0.setCell ⟨W.heap.size,0,none⟩ (encW 4)).setCell ⟨W.heap.size,1,none⟩ (encW 258)).setCell ⟨W.heap.size,2,none⟩ (encW 5)) W.heap.size N (fun j => encW (lngF 3 j))) := by
  refine cells_congr (((hc0.upd (i := 0) (v := encW 4) (by omega)).upd (i := 1) (v := encW 258) (by omega)).upd (i := 2) (v := encW 5) (by omega)) fun j hj => ?_
  unfold lngF
  by_cases e0 : j = 0
  ·subst e0;rfl
  ·by_cases e1 : j = 1
   ·subst e1;rfl
   ·by_cases e2 : j = 2
    ·subst e2;rfl
    ·simp only [e0,e1,e2,if_false]
     rw [if_neg (by omega)]
 have HB3 : Hid (Below W.heap.size W (((w0.setCell ⟨W.heap.size,0,none⟩ (encW 4)).setCell ⟨W.heap.size,1,none⟩ (encW 258)).setCell ⟨W.heap.size,2,none⟩ (encW 5))) := ((hb0.setCell (by exact Nat.le_refl _) _).setCell (by exact Nat.le_refl _) _).setCell (by exact Nat.le_refl _) _
 unfold encW at HC0 HB3
 clear hA hB hz hN hb0 hc0 hk
 go_enter Tryz.func3,Tryz.ntmps3
 go_wp2_with fail
 go_loopw [6] (fun i wr => ∃ q : Nat,i = .int .i64 q ∧ 3 <= q ∧ q <= N ∧ Hid (CellsAt wr W.heap.size N (fun j => encW (lngF q j))) ∧ Hid (Below W.heap.size W wr) ∧ W.heap.size < wr.heap.size) (fun i _ => N - (intOf i).toNat)
 case atStart => exact ⟨3,rfl,Nat.le_refl _,by omega,HC0,HB3,by simp [World.setCell];omega⟩
 case round =>
  clear HC0 HB3 z0 z1 z2 zf hw0
  obtain ⟨q,rfl,hq3,hqN,HC,HBW,hsw⟩ := hrel
  by_cases hlt : q < N
  ·have hltI : (q : Int) < (N : Int) := by omega
   have hq0 : (0 : Int) <= (q : Int) := by omega
   have cq : wr.cell? ⟨W.heap.size,q,none⟩ = some (encW (lngF q q)) := HC.out.1 q hlt
   have cf : ∀ i,wr.frozen? ⟨W.heap.size,i,none⟩ = false := HC.out.2
   unfold encW at cq
   have H1 : Hid (CellsAt (wr.setCell ⟨W.heap.size,q,none⟩ (.int .u64 9)) W.heap.size N (fun j => encW (lngF (q + 1) j))) := by
    refine cells_congr (HC.out.upd (i := q) (v := encW 9) hlt) fun j hj => ?_
    unfold lngF
    by_cases e0 : j = q
    ·subst e0
     rw [if_pos rfl,if_neg (by omega),if_neg (by omega),if_neg (by omega),if_pos (by omega)]
    ·simp only [e0,if_false]
     by_cases e3 : j < q
     ·rw [if_pos e3,if_pos (show j < q + 1 by omega)]
     ·rw [if_neg e3,if_neg (show ¬ j < q + 1 by omega)]
   have H2 : Hid (Below W.heap.size W (wr.setCell ⟨W.heap.size,q,none⟩ (.int .u64 9))) := HBW.out.setCell (by exact Nat.le_refl _) _
   go_wp2_with fail
   go_roundw
   case rel => exact ⟨q + 1,by go_num,by omega,by omega,H1,H2,by simp [World.setCell];omega⟩
   case measure => simp [intOf];omega
  ·obtain rfl : q = N := by omega
   have hltI : ¬ (q : Int) < (q : Int) := by omega
   have hrow : RowAt wr (some ⟨W.heap.size,0,none⟩) ((lngL q).map encW) := fun _ => ⟨W.heap.size,0,rfl,hsw,fun i v hv => by
    unfold lngL at hv
    rw [List.getElem?_map,List.getElem?_map] at hv
    by_cases hi : i < q
    ·rw [List.getElem?_range hi] at hv
     rw [Nat.zero_add,HC.out.1 i hi]
     exact hv
    ·rw [List.getElem?_eq_none (by simp;omega)] at hv
     cases hv⟩
   have HR := Lib.hid hrow
   obtain ⟨w1,hw1⟩ : ∃ x,wr.alloc (.cells #[.int .i64 k,.string ⟨#[47]⟩,.string ⟨#[]⟩,.int .i64 0,.int .i64 0,.slice none 0 0] 28) = x := ⟨_,rfl⟩
   have hb1 : Below wr.heap.size wr w1 := by rw [<- hw1];exact (Below.refl _ _).alloc (Nat.le_refl _) _
   have hs1 : w1.heap.size = wr.heap.size + 1 := by rw [<- hw1];simp
   have HO1 : Hid (CellsAt w1 wr.heap.size 6 (cellsOp k ⟨#[47]⟩ ⟨#[]⟩ 0 0 none 0 0)) := by
    rw [Hid,<- hw1]
    exact cellsAt_new _ _ _ _ _ fun i hi => match i,hi with | 0,_ => rfl | 1,_ => rfl | 2,_ => rfl | 3,_ => rfl | 4,_ => rfl | 5,_ => rfl
   have HB1 := Lib.hid (HBW.out.trans (hb1.mono (by omega)))
   have HR1 := Lib.hid (HR.out.below hb1)
   have HW1 := Lib.hid hw1
   clear hrow hb1 HC hw1
   go_wp2_with fail
   rw [HW1.out]
   refine (HA.out _ q w1 HR1.out).mono ?_
   rintro e w2 ⟨⟨NA,nn,nc,BA,bn,bc,rfl,hrow⟩,hb2⟩
   obtain ⟨X,hX⟩ : ∃ x,w2.heap.size = x := ⟨_,rfl⟩
   obtain ⟨w3,hw3⟩ : ∃ x,w2.alloc (.cells #[.bool l.more,.int .i64 l.at_,.int .i64 l.used,.int .i64 l.res.no,.int .i64 l.res.kind,.int .i64 l.res.links,.int .i64 l.res.n,.slice NA nn nc,.slice BA bn bc] 35) = x := ⟨_,rfl⟩
   have hbw3 : Below w2.heap.size w2 w3 := by rw [<- hw3];exact (Below.refl _ _).alloc (Nat.le_refl _) _
   have HX : Hid (CellsAt w3 X 9 (cellsLk l NA nn nc BA bn bc)) := by
    rw [Hid,<- hw3,<- hX]
    exact cellsAt_new _ _ _ _ _ fun i hi => match i,hi with | 0,_ => rfl | 1,_ => rfl | 2,_ => rfl | 3,_ => rfl | 4,_ => rfl | 5,_ => rfl | 6,_ => rfl | 7,_ => rfl | 8,_ => rfl
   have hsw3 : w3.heap.size = X + 1 := by rw [<- hw3,<- hX];simp
   have hs2 := hb2.size
   have hb13 := hb2.trans (hbw3.mono hb2.size)
   have HO3 := Lib.hid (HO1.out.below hb13 (by omega))
   have HB3 := Lib.hid (HB1.out.trans (hb13.mono (by omega)))
   have HR3 := Lib.hid (HR1.out.below hb13)
   have HQ3 : Hid (RowsAt w1.heap.size w3 l.res NA nn nc BA bn bc) := RowsAt.below (base := w1.heap.size) hrow hbw3 (Nat.le_refl _)
   clear hb2 hbw3 hb13 hrow HA HO1
   have o0 : w3.cell? ⟨wr.heap.size,0,none⟩ = some (.int .i64 k) := HO3.out.1 0 (by omega)
   have o1 : w3.cell? ⟨wr.heap.size,1,none⟩ = some (.string ⟨#[47]⟩) := HO3.out.1 1 (by omega)
   have o2 : w3.cell? ⟨wr.heap.size,2,none⟩ = some (.string ⟨#[]⟩) := HO3.out.1 2 (by omega)
   have o3 : w3.cell? ⟨wr.heap.size,3,none⟩ = some (.int .i64 0) := HO3.out.1 3 (by omega)
   have o4 : w3.cell? ⟨wr.heap.size,4,none⟩ = some (.int .i64 0) := HO3.out.1 4 (by omega)
   have o5 : w3.cell? ⟨wr.heap.size,5,none⟩ = some (.slice none 0 0) := HO3.out.1 5 (by omega)
   unfold lookV
   dsimp only
   go_wp2_with fail
   refine (HB.out _ q w3 HR3.out).mono ?_
   rintro e w4 ⟨⟨NA',nn',nc',BA',bn',bc',rfl,hrow⟩,hb4⟩
   clear hw3
   obtain ⟨Y,hY⟩ : ∃ x,w4.heap.size = x := ⟨_,rfl⟩
   obtain ⟨w5,hw5⟩ : ∃ x,w4.alloc (.cells #[.bool l.more,.int .i64 l.at_,.int .i64 l.used,.int .i64 l.res.no,.int .i64 l.res.kind,.int .i64 l.res.links,.int .i64 l.res.n,.slice NA' nn' nc',.slice BA' bn' bc'] 35) = x := ⟨_,rfl⟩
   have hbw5 : Below w4.heap.size w4 w5 := by rw [<- hw5];exact (Below.refl _ _).alloc (Nat.le_refl _) _
   have HY : Hid (CellsAt w5 Y 9 (cellsLk l NA' nn' nc' BA' bn' bc')) := by
    rw [Hid,<- hw5,<- hY]
    exact cellsAt_new _ _ _ _ _ fun i hi => match i,hi with | 0,_ => rfl | 1,_ => rfl | 2,_ => rfl | 3,_ => rfl | 4,_ => rfl | 5,_ => rfl | 6,_ => rfl | 7,_ => rfl | 8,_ => rfl
   have hsw5 : w5.heap.size = Y + 1 := by rw [<- hw5,<- hY];simp
   have hs4 := hb4.size
   have hb35 := hb4.trans (hbw5.mono hb4.size)
   have HX5 := Lib.hid (HX.out.below hb35 (by omega))
   have HB5 := Lib.hid (HB3.out.trans (hb35.mono (by omega)))
   have HQ5 := Lib.hid (HQ3.out.below hb35 (Nat.le_refl _))
   have HP5 : Hid (RowsAt w3.heap.size w5 l.res NA' nn' nc' BA' bn' bc') := RowsAt.below (base := w3.heap.size) hrow hbw5 (Nat.le_refl _)
   have HD := Lib.hid (HSM.out NA NA' BA BA' nn nc bn bc nn' nc' bn' bc' _ _ w5 HQ5.out HP5.out)
   clear hb4 hbw5 hb35 hrow o0 o1 o2 o3 o4 o5 HX HO3 HB HSM HQ3 HQ5 HP5
   have g0 : w5.cell? ⟨X,0,none⟩ = some (.bool l.more) := HX5.out.1 0 (by omega)
   have g1 : w5.cell? ⟨X,1,none⟩ = some (.int .i64 l.at_) := HX5.out.1 1 (by omega)
   have g2 : w5.cell? ⟨X,2,none⟩ = some (.int .i64 l.used) := HX5.out.1 2 (by omega)
   have g3 : w5.cell? ⟨X,3,none⟩ = some (.int .i64 l.res.no) := HX5.out.1 3 (by omega)
   have g4 : w5.cell? ⟨X,4,none⟩ = some (.int .i64 l.res.kind) := HX5.out.1 4 (by omega)
   have g5 : w5.cell? ⟨X,5,none⟩ = some (.int .i64 l.res.links) := HX5.out.1 5 (by omega)
   have g6 : w5.cell? ⟨X,6,none⟩ = some (.int .i64 l.res.n) := HX5.out.1 6 (by omega)
   have g7 : w5.cell? ⟨X,7,none⟩ = some (.slice NA nn nc) := HX5.out.1 7 (by omega)
   have g8 : w5.cell? ⟨X,8,none⟩ = some (.slice BA bn bc) := HX5.out.1 8 (by omega)
   have y0 : w5.cell? ⟨Y,0,none⟩ = some (.bool l.more) := HY.out.1 0 (by omega)
   have y1 : w5.cell? ⟨Y,1,none⟩ = some (.int .i64 l.at_) := HY.out.1 1 (by omega)
   have y2 : w5.cell? ⟨Y,2,none⟩ = some (.int .i64 l.used) := HY.out.1 2 (by omega)
   have y3 : w5.cell? ⟨Y,3,none⟩ = some (.int .i64 l.res.no) := HY.out.1 3 (by omega)
   have y4 : w5.cell? ⟨Y,4,none⟩ = some (.int .i64 l.res.kind) := HY.out.1 4 (by omega)
   have y5 : w5.cell? ⟨Y,5,none⟩ = some (.int .i64 l.res.links) := HY.out.1 5 (by omega)
   have y6 : w5.cell? ⟨Y,6,none⟩ = some (.int .i64 l.res.n) := HY.out.1 6 (by omega)
   have y7 : w5.cell? ⟨Y,7,none⟩ = some (.slice NA' nn' nc') := HY.out.1 7 (by omega)
   have y8 : w5.cell? ⟨Y,8,none⟩ = some (.slice BA' bn' bc') := HY.out.1 8 (by omega)
   unfold lookV
   dsimp only
   rcases HZ.out with ⟨rfl,h3⟩ | ⟨rfl,h3⟩
   ·have he : decide ((0 : Int) < e) = false := decide_eq_false (by have := HNN.out;omega)
    go_wp2_with (first
     | (go_at_call 10;refine HD.out.mono ?_;rintro e w8 ⟨rfl,hb8⟩;have HB8 := Lib.hid (HB5.out.trans (hb8.mono (by omega)));clear hb8)
     | (go_at_call 11;refine (HNM.out _ _).mono ?_;rintro e w9 ⟨rfl,rfl⟩)
     | (go_at_call 7;refine (HWK.out _).mono ?_;rintro e w10 ⟨rfl,hb10⟩))
    go_ret
    exact ⟨rfl,HB8.out.trans (hb10.mono HB8.out.size)⟩
   ·have he : decide ((0 : Int) < e) = true := decide_eq_true (by have := HNN.out;omega)
    go_wp2_with (first
     | (go_at_call 10;refine HD.out.mono ?_;rintro e w8 ⟨rfl,hb8⟩;have HB8 := Lib.hid (HB5.out.trans (hb8.mono (by omega)));clear hb8)
     | (go_at_call 11;refine (HNM.out _ _).mono ?_;rintro e w9 ⟨rfl,rfl⟩)
     | (go_at_call 7;refine (HWK.out _).mono ?_;rintro e w10 ⟨rfl,hb10⟩))
    go_ret
    exact ⟨rfl,HB8.out.trans (hb10.mono HB8.out.size)⟩
theorem lookLong_any (e k : Int) (W : World) (_he : (Lit.int .i64 e).wf = true) (_hk : (Lit.int .i64 k).wf = true) :
  Calls Tryz.prog 3 #[.int .i64 e,.int .i64 k] W fun e W' => e = .returned (.bool true) ∧ Below W.heap.size W W' := by
 by_cases ho : e < -1 ∨ 1 < e ∨ k < 1 ∨ 3 < k
 ·exact lookLong_out e k W ho
 ·obtain ⟨N,hN⟩ : ∃ N : Nat,20000 + e = (N : Int) := ⟨(20000 + e).toNat,by omega⟩
  have hr : (readP (bytesOf ⟨#[47]⟩)).1 = 0 := by kernel_rfl
  have hk3 : 1 <= k ∧ k <= 3 := by omega
  have hrf : refuseN k (bytesOf ⟨#[47]⟩) (bytesOf ⟨#[]⟩) 0 0 (0 : Nat) = 0 := by
   unfold refuseN checkN
   rw [if_neg (by omega),if_neg (by omega),if_neg (by rw [hr];exact fun h => h rfl),if_neg (by omega)]
   by_cases h3 : k = 3
   ·rw [if_pos h3,if_neg (by omega)]
   ·rw [if_neg h3,if_neg (by omega),if_neg (by omega)]
  have hz : ((lookN k (bytesOf ⟨#[47]⟩) (bytesOf ⟨#[]⟩) 0 0 (0 : Nat) (lngL N)).2 = 0 ∧ N <= 20000) ∨ ((lookN k (bytesOf ⟨#[47]⟩) (bytesOf ⟨#[]⟩) 0 0 (0 : Nat) (lngL N)).2 = 3 ∧ 20000 < N) := by
   by_cases h : N <= 20000
   ·refine .inl ⟨?_,h⟩
    rw [lookN_fine hrf (by rw [lngL_length];exact h)]
   ·refine .inr ⟨?_,by omega⟩
    rw [lookN_long hrf (by rw [lngL_length];omega)]
  refine lookLong_in e k N (lookN k (bytesOf ⟨#[47]⟩) (bytesOf ⟨#[]⟩) 0 0 (0 : Nat) (lngL N)).1 (lookN k (bytesOf ⟨#[47]⟩) (bytesOf ⟨#[]⟩) 0 0 (0 : Nat) (lngL N)).2 W hN (by omega) (by omega) hk3 hz (fun A c W' hw => ?_) (fun A c W' hw => ?_)
  ·exact lookRun_any (cf := c) k ⟨#[47]⟩ ⟨#[]⟩ 0 0 none 0 0 [] W' (by omega) (by decide) (by decide) rfl (by unfold maxLen;omega) RowAt.nil (by omega) (by omega) (lngL_length N) lngL_lt hw
  ·exact ref22_any (cf := c) k ⟨#[47]⟩ ⟨#[]⟩ 0 0 none 0 0 W' (by decide) (by decide) (by omega) (by omega) (lngL_length N) lngL_lt hw
end
end Go.Proofs.YtdpooagnbmpinaaGreatDoor
