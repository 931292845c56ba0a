import Derived.Test.YtdpooagnbmpinaaGreatDoorZW5
import Derived.Test.YtdpooagnbmpinaaGreatDoorZG4
import Derived.Defers
import Derived.Recover
import Derived.Laws.Pointers
import Derived.Deep.RegionHeld3
namespace Go.Proofs.YtdpooagnbmpinaaGreatDoor
section
open Go.RowKit
theorem nmust_any (b : Bool) (c : Nat) (W : World) :
  Calls Tryz.prog 196 #[.bool b,.int .i64 c] W fun e W' => e = (if b then .returned (.tuple #[]) else .panicked [errV c]) ∧ W' = W := by
 cases b
 ·go_enter Tryz.func196,Tryz.ntmps196
  go_wp2
  exact ⟨rfl,rfl,rfl⟩
 ·go_enter Tryz.func196,Tryz.ntmps196
  go_wp2
  go_end0
  exact ⟨rfl,rfl⟩
def Arr3 (W : World) (X : Nat) (k l t : Int) : Prop := (W.cell? ⟨X,0,none⟩ = some (.int .i64 k) ∧ W.cell? ⟨X,1,none⟩ = some (.int .i64 l) ∧ W.cell? ⟨X,2,none⟩ = some (.int .i64 t)) ∧ ∀ i,W.frozen? ⟨X,i,none⟩ = false
theorem Arr3.below {W W' : World} {X n : Nat} {k l t : Int} (h : Arr3 W X k l t) (hb : Below n W W') (hX : X < n) : Arr3 W' X k l t :=
 ⟨⟨(hb.cell (p := ⟨X,0,none⟩) hX).trans h.1.1,(hb.cell (p := ⟨X,1,none⟩) hX).trans h.1.2.1,(hb.cell (p := ⟨X,2,none⟩) hX).trans h.1.2.2⟩,fun i => (hb.frozen (p := ⟨X,i,none⟩) hX).trans (h.2 i)⟩
def put3 (W : World) (X : Nat) (a b c : Int) : World := ((W.setCell ⟨X,0,none⟩ (.int .i64 a)).setCell ⟨X,1,none⟩ (.int .i64 b)).setCell ⟨X,2,none⟩ (.int .i64 c)
theorem put3_arr {W : World} {X : Nat} {k l t : Int} (h : Arr3 W X k l t) (a b c : Int) : Arr3 (put3 W X a b c) X a b c := by
 obtain ⟨⟨h0,h1,h2⟩,hf⟩ := h
 unfold put3
 refine ⟨⟨?_,?_,?_⟩,fun i => by simp [World.frozen?_setCell,hf i]⟩
 ·rw [World.cell?_setCell_other _ _ _ _ (by intro e;cases e),World.cell?_setCell_other _ _ _ _ (by intro e;cases e),World.cell?_setCell_same' _ _ _ (by rw [h0];rfl)]
 ·rw [World.cell?_setCell_other _ _ _ _ (by intro e;cases e),World.cell?_setCell_same' _ _ _ (by rw [World.cell?_setCell_other _ _ _ _ (by intro e;cases e),h1];rfl)]
 ·rw [World.cell?_setCell_same' _ _ _ (by rw [World.cell?_setCell_other _ _ _ _ (by intro e;cases e),World.cell?_setCell_other _ _ _ _ (by intro e;cases e),h2];rfl)]
theorem put3_below {W W0 : World} {n X : Nat} {a b c : Int} (h : Below n W0 W) (hX : n <= X) : Below n W0 (put3 W X a b c) :=
 ((h.setCell (p := ⟨X,0,none⟩) hX _).setCell (p := ⟨X,1,none⟩) hX _).setCell (p := ⟨X,2,none⟩) hX _
theorem clear_any (X : Nat) (k l t : Int) (W : World) (hX : X < W.heap.size) (h : Arr3 W X k l t) :
  Calls Tryz.prog 194 #[.pointer (some ⟨X,0,none⟩)] W fun e W' => e = .returned (.tuple #[]) ∧ ∃ o,W' = (put3 W X 0 0 0).alloc o := by
 obtain ⟨⟨c0,c1,c2⟩,cf⟩ := h
 have f0 := cf 0
 have f1 := cf 1
 have f2 := cf 2
 have hne : ¬ X = W.heap.size := by omega
 have hne' : ¬ W.heap.size = X := by omega
 clear cf
 go_enter Tryz.func194,Tryz.ntmps194
 go_wp2
 go_end0
 exact ⟨rfl,_,rfl⟩
theorem caught_idle (p : Addr) (F : Value) (w : World) :
  CallsD Tryz.prog 193 #[.pointer (some p),F] .returning w fun e u' w' => e = .returned (.tuple #[]) ∧ u' = .returning ∧ w' = w := by
 refine callsD_of_wpS Tryz.func193 rfl fun c₀ cs hu => ?_
 simp only [Tryz.ntmps193,List.size_toArray,List.length_cons,List.length_nil,Nat.reduceAdd,Nat.reduceSub,Array.replicate_succ,Array.replicate_zero,List.push_toArray,List.append_toArray,List.nil_append,List.cons_append]
 apply wpS_seq
 apply wpS_region
 simp [wpOpsS,go_sem,recoverD,hu,Exit.thenS]
 refine wpS_of_wp ?_
 go_wp2
 cases c₀
 simp_all [bodyPostS,results,Tryz.results193]
theorem Arr3.set {W : World} {X E : Nat} {k l t : Int} {v : Value} (h : Arr3 W X k l t) (hne : E ≠ X) : Arr3 (W.setCell ⟨E,0,none⟩ v) X k l t :=
 ⟨⟨(World.cell?_setCell_other _ _ _ _ (by intro e;injection e with e;exact hne e)).trans h.1.1,(World.cell?_setCell_other _ _ _ _ (by intro e;injection e with e;exact hne e)).trans h.1.2.1,(World.cell?_setCell_other _ _ _ _ (by intro e;injection e with e;exact hne e)).trans h.1.2.2⟩,fun i => (World.frozen?_setCell _ _ _ _).trans (h.2 i)⟩
theorem assert_err (n : Int) (w : World) : (Instr.typeAssert (.iface 29 (.int .i64 n)) 20 29 false).run Tryz.prog w = .ok (.int .i64 n) w := by kernel_rfl
set_option maxRecDepth 100000 in
theorem caught_panics (E X c : Nat) (e0 k l t : Int) (older : List PanicEntry) (w : World) (hne : E ≠ X) (hX : X < w.heap.size) (hc : w.cell? ⟨E,0,none⟩ = some (.int .i64 e0)) (hf : w.frozen? ⟨E,0,none⟩ = false) (h : Arr3 w X k l t) :
  CallsD Tryz.prog 193 #[.pointer (some ⟨E,0,none⟩),.func (.func 194) #[] #[.pointer (some ⟨X,0,none⟩)]] (.panicking (errV c :: older)) w fun e u' w' =>
   e = .returned (.tuple #[]) ∧ u' = .panicking ({ v := .iface 29 (.int .i64 c),recovered := true } :: older) ∧ ∃ o,w' = (put3 (w.setCell ⟨E,0,none⟩ (.int .i64 c)) X 0 0 0).alloc o := by
 have HC := Lib.hid (clear_any X k l t (w.setCell ⟨E,0,none⟩ (.int .i64 c)) (by simpa [World.setCell] using hX) (h.set hne))
 refine callsD_of_wpS Tryz.func193 rfl fun c₀ cs hu => ?_
 simp only [Tryz.ntmps193,List.size_toArray,List.length_cons,List.length_nil,Nat.reduceAdd,Nat.reduceSub,Array.replicate_succ,Array.replicate_zero,List.push_toArray,List.append_toArray,List.nil_append,List.cons_append]
 apply wpS_seq
 apply wpS_region
 simp [wpOpsS,go_sem,recoverD,hu,Exit.thenS,errV]
 refine wpS_of_wp ?_
 have hta := assert_err
 go_wp2_with (go_at_call 194;refine HC.out.mono ?_;rintro e w' ⟨rfl,o,rfl⟩)
 exact ⟨rfl,_,rfl,.tuple #[],results_none rfl _ _ _,rfl,rfl,o,rfl⟩
end
section
open Go.RowKit
def lay4 (W : World) (c0 c1 c2 c3 : Array Value) (T0 T1 T2 T3 : TypeId) : World := (((W.alloc (.cells c0 T0)).alloc (.cells c1 T1)).alloc (.cells c2 T2)).alloc (.cells c3 T3)
section
variable (W : World) (c0 c1 c2 c3 : Array Value) (T0 T1 T2 T3 : TypeId)
theorem lay4_size : (lay4 W c0 c1 c2 c3 T0 T1 T2 T3).heap.size = W.heap.size + 4 := by simp [lay4]
theorem lay4_below : Below W.heap.size W (lay4 W c0 c1 c2 c3 T0 T1 T2 T3) :=
 ((((Below.refl _ _).alloc (Nat.le_refl _) _).alloc (by simp) _).alloc (by simp;omega) _).alloc (by simp;omega) _
theorem lay4_0 (i : Nat) (v : Value) (h : c0[i]? = some v) : (lay4 W c0 c1 c2 c3 T0 T1 T2 T3).cell? ⟨W.heap.size,i,none⟩ = some v :=
 ((((Below.refl (W.heap.size + 1) (W.alloc (.cells c0 T0))).alloc (by simp) _).alloc (by simp) _).alloc (by simp) _ |>.cell (p := ⟨W.heap.size,i,none⟩) (Nat.lt_succ_self _)).trans (cell_new W c0 T0 i v h)
theorem lay4_1 (i : Nat) (v : Value) (h : c1[i]? = some v) : (lay4 W c0 c1 c2 c3 T0 T1 T2 T3).cell? ⟨W.heap.size + 1,i,none⟩ = some v := by
 have h1 := cell_new (W.alloc (.cells c0 T0)) c1 T1 i v h
 have e : (W.alloc (.cells c0 T0)).heap.size = W.heap.size + 1 := by simp
 rw [e] at h1
 exact (((Below.refl (W.heap.size + 2) ((W.alloc (.cells c0 T0)).alloc (.cells c1 T1))).alloc (by simp) _).alloc (by simp) _ |>.cell (p := ⟨W.heap.size + 1,i,none⟩) (Nat.lt_succ_self _)).trans h1
theorem lay4_2 (i : Nat) (v : Value) (h : c2[i]? = some v) : (lay4 W c0 c1 c2 c3 T0 T1 T2 T3).cell? ⟨W.heap.size + 2,i,none⟩ = some v := by
 have h1 := cell_new ((W.alloc (.cells c0 T0)).alloc (.cells c1 T1)) c2 T2 i v h
 have e : ((W.alloc (.cells c0 T0)).alloc (.cells c1 T1)).heap.size = W.heap.size + 2 := by simp
 rw [e] at h1
 exact ((Below.refl (W.heap.size + 3) (((W.alloc (.cells c0 T0)).alloc (.cells c1 T1)).alloc (.cells c2 T2))).alloc (by simp) _ |>.cell (p := ⟨W.heap.size + 2,i,none⟩) (Nat.lt_succ_self _)).trans h1
theorem lay4_3 (i : Nat) (v : Value) (h : c3[i]? = some v) : (lay4 W c0 c1 c2 c3 T0 T1 T2 T3).cell? ⟨W.heap.size + 3,i,none⟩ = some v := by
 have h1 := cell_new (((W.alloc (.cells c0 T0)).alloc (.cells c1 T1)).alloc (.cells c2 T2)) c3 T3 i v h
 have e : (((W.alloc (.cells c0 T0)).alloc (.cells c1 T1)).alloc (.cells c2 T2)).heap.size = W.heap.size + 3 := by simp
 rw [e] at h1
 exact h1
theorem frozen_lay (xs : Array Value) (T : TypeId) (b i : Nat) (h : W.frozen? ⟨b,i,none⟩ = false) : (W.alloc (.cells xs T)).frozen? ⟨b,i,none⟩ = false := by
 by_cases e : b = W.heap.size
 ·subst e;simp
 ·rw [World.frozen?_alloc_old W _ _ e];exact h
theorem lay4_frozen (b i : Nat) (hb : W.heap.size <= b) : (lay4 W c0 c1 c2 c3 T0 T1 T2 T3).frozen? ⟨b,i,none⟩ = false := by
 have h0 : W.frozen? ⟨b,i,none⟩ = false := by
  unfold World.frozen?
  rw [show W.heap[(⟨b,i,none⟩ : Addr).block]? = none from Array.getElem?_eq_none hb]
 exact frozen_lay _ _ _ _ _ (frozen_lay _ _ _ _ _ (frozen_lay _ _ _ _ _ (frozen_lay _ _ _ _ _ h0)))
end
end
section
open Go.RowKit
theorem put3_cell (W : World) (X q i : Nat) (a b c : Int) (hne : q ≠ X) : (((W.setCell ⟨X,0,none⟩ (.int .i64 a)).setCell ⟨X,1,none⟩ (.int .i64 b)).setCell ⟨X,2,none⟩ (.int .i64 c)).cell? ⟨q,i,none⟩ = W.cell? ⟨q,i,none⟩ := by
 rw [World.cell?_setCell_other _ _ _ _ (by intro e;injection e with e;exact hne e.symm),World.cell?_setCell_other _ _ _ _ (by intro e;injection e with e;exact hne e.symm),World.cell?_setCell_other _ _ _ _ (by intro e;injection e with e;exact hne e.symm)]
set_option maxRecDepth 100000 in
set_option maxHeartbeats 4000000 in
theorem nodeGet_no (k t : Nat) (W : World) (hk : k < 18446744073709551616) (ht : t < 18446744073709551616) (hr : nodeRight (k % 256 : Nat) (smallI (k / 256)) (smallI t) = false) :
  Calls Tryz.prog 133 #[shapeV,encLn k t] W fun e W' => e = .returned (.tuple #[encN 0 0 0,.int .i64 180]) ∧ Below W.heap.size W W' := by
 have hmf : ∀ (fn : Fn) (first cap : Array Value) (w : World),(Instr.makeFunc fn first cap).run Tryz.prog w = .ok (.func fn first cap) w := fun _ _ _ _ => rfl
 have HRD := Lib.hid (fun W => nodeRead_any k t W hk ht)
 have HPT := Lib.hid (fun W => put_no _ _ _ W hr)
 have HMU := Lib.hid (fun W => nmust_any false 180 W)
 generalize ((k % 256 : Nat) : Int) = a at *
 generalize smallI (k / 256) = l at *
 generalize smallI t = s at *
 unfold encLn encN at *
 unfold shapeV at *
 go_enter_defers Tryz.func133,Tryz.ntmps133
 go_wp2_with fail
 refine (HRD.out _).mono ?_
 rintro e w2 ⟨rfl,hb2⟩
 obtain ⟨W0,hW0⟩ : ∃ W0,lay4 W #[.func (.func 197) #[] #[],.func (.func 199) #[] #[],.func (.func 202) #[] #[]] #[.int .u64 k,.int .u64 t,.int .u64 0,.int .u64 0,.int .u64 0,.int .u64 0,.int .u64 0,.int .u64 0] #[.int .i64 0,.int .i64 0,.int .i64 0] #[.int .i64 0]
  219 136 46 29 = W0 := ⟨_,rfl⟩
 have hb2 : Below W0.heap.size W0 w2 := hW0 ▸ hb2
 have hsz : W0.heap.size = W.heap.size + 4 := by rw [<- hW0];exact lay4_size ..
 have hs2 : W.heap.size + 4 <= w2.heap.size := by have := hb2.size;omega
 have hbW : Below W.heap.size W W0 := by rw [<- hW0];exact lay4_below ..
 have s0 : w2.cell? ⟨W.heap.size,0,none⟩ = some (.func (.func 197) #[] #[]) := (hb2.cell (p := ⟨W.heap.size,0,none⟩) (by show W.heap.size < _;omega)).trans (by rw [<- hW0];exact lay4_0 _ _ _ _ _ _ _ _ _ 0 _ rfl)
 have s1 : w2.cell? ⟨W.heap.size,1,none⟩ = some (.func (.func 199) #[] #[]) := (hb2.cell (p := ⟨W.heap.size,1,none⟩) (by show W.heap.size < _;omega)).trans (by rw [<- hW0];exact lay4_0 _ _ _ _ _ _ _ _ _ 1 _ rfl)
 have s2 : w2.cell? ⟨W.heap.size,2,none⟩ = some (.func (.func 202) #[] #[]) := (hb2.cell (p := ⟨W.heap.size,2,none⟩) (by show W.heap.size < _;omega)).trans (by rw [<- hW0];exact lay4_0 _ _ _ _ _ _ _ _ _ 2 _ rfl)
 have HX : Hid (Arr3 w2 (W.heap.size + 2) 0 0 0) := Arr3.below (W := W0) (by rw [<- hW0];exact ⟨⟨lay4_2 _ _ _ _ _ _ _ _ _ 0 _ rfl,lay4_2 _ _ _ _ _ _ _ _ _ 1 _ rfl,lay4_2 _ _ _ _ _ _ _ _ _ 2 _ rfl⟩,fun i => lay4_frozen _ _ _ _ _ _ _ _ _ _ i (by omega)⟩) hb2 (by omega)
 have e0 : w2.cell? ⟨W.heap.size + 3,0,none⟩ = some (.int .i64 0) := (hb2.cell (p := ⟨W.heap.size + 3,0,none⟩) (by show W.heap.size + 3 < _;omega)).trans (by rw [<- hW0];exact lay4_3 _ _ _ _ _ _ _ _ _ 0 _ rfl)
 have ef : w2.frozen? ⟨W.heap.size + 3,0,none⟩ = false := (hb2.frozen (p := ⟨W.heap.size + 3,0,none⟩) (by show W.heap.size + 3 < _;omega)).trans (by rw [<- hW0];exact lay4_frozen _ _ _ _ _ _ _ _ _ _ 0 (by omega))
 have HB2 : Hid (Below W.heap.size W w2) := hbW.trans (hb2.mono (by omega))
 obtain ⟨⟨x0,x1,x2⟩,xf⟩ := HX.out
 have y0 := xf 0
 have y1 := xf 1
 have y2 := xf 2
 have p0 := (put3_cell w2 (W.heap.size + 2) W.heap.size 0 a l s (by omega)).trans s0
 have p1 := (put3_cell w2 (W.heap.size + 2) W.heap.size 1 a l s (by omega)).trans s1
 have p2 := (put3_cell w2 (W.heap.size + 2) W.heap.size 2 a l s (by omega)).trans s2
 obtain ⟨⟨q0,q1,q2⟩,qf⟩ := put3_arr HX.out a l s
 unfold put3 at q0 q1 q2 qf
 clear hb2 hW0 xf qf hbW
 go_wp2_with fail
 have HX3 := Lib.hid (put3_arr HX.out a l s)
 have HB3 := Lib.hid (put3_below HB2.out (X := W.heap.size + 2) (a := a) (b := l) (c := s) (by omega))
 have e3 := (put3_cell w2 (W.heap.size + 2) (W.heap.size + 3) 0 a l s (by omega)).trans e0
 have f3 : (put3 w2 (W.heap.size + 2) a l s).frozen? ⟨W.heap.size + 3,0,none⟩ = false := by unfold put3;rw [World.frozen?_setCell,World.frozen?_setCell,World.frozen?_setCell];exact ef
 have hs3 : W.heap.size + 4 <= (put3 w2 (W.heap.size + 2) a l s).heap.size := by simp [put3,World.setCell];omega
 refine (HPT.out _).mono ?_
 rintro e w4 ⟨rfl,hb4⟩
 have hb4 : Below (put3 w2 (W.heap.size + 2) a l s).heap.size (put3 w2 (W.heap.size + 2) a l s) w4 := hb4
 have e4 : w4.cell? ⟨W.heap.size + 3,0,none⟩ = some (.int .i64 0) := (hb4.cell (p := ⟨W.heap.size + 3,0,none⟩) (by show W.heap.size + 3 < _;omega)).trans e3
 have f4 : w4.frozen? ⟨W.heap.size + 3,0,none⟩ = false := (hb4.frozen (p := ⟨W.heap.size + 3,0,none⟩) (by show W.heap.size + 3 < _;omega)).trans f3
 have HX4 := Lib.hid (HX3.out.below hb4 (by omega))
 have HB4 := Lib.hid (HB3.out.trans (hb4.mono (by omega)))
 have hs4 : W.heap.size + 4 <= w4.heap.size := by have := hb4.size;omega
 have hbA : Below w4.heap.size w4 (w4.alloc (.cells #[.int .u64 0,.int .u64 0,.int .u64 0,.int .u64 0,.int .u64 0,.int .u64 0,.int .u64 0,.int .u64 0] 136)) := (Below.refl _ _).alloc (Nat.le_refl _) _
 have e5 : (w4.alloc (.cells #[.int .u64 0,.int .u64 0,.int .u64 0,.int .u64 0,.int .u64 0,.int .u64 0,.int .u64 0,.int .u64 0] 136)).cell? ⟨W.heap.size + 1 + 1 + 1,0,none⟩ = some (.int .i64 0) := (hbA.cell (p := ⟨W.heap.size + 3,0,none⟩) (by show W.heap.size + 3 < _;omega)).trans e4
 have f5 : (w4.alloc (.cells #[.int .u64 0,.int .u64 0,.int .u64 0,.int .u64 0,.int .u64 0,.int .u64 0,.int .u64 0,.int .u64 0] 136)).frozen? ⟨W.heap.size + 1 + 1 + 1,0,none⟩ = false := (hbA.frozen (p := ⟨W.heap.size + 3,0,none⟩) (by show W.heap.size + 3 < _;omega)).trans f4
 clear hbA
 clear hb4 e3 f3 hs3 s0 s1 s2 p0 p1 p2 q0 q1 q2 y0 y1 y2 x0 x1 x2 e0 ef hs2
 go_wp2_with (go_at_call 196;refine (HMU.out _).mono ?_;rintro e w' ⟨rfl,rfl⟩)
 obtain ⟨W5,hW5⟩ : ∃ W5,(w4.alloc (.cells #[.int .u64 0,.int .u64 0,.int .u64 0,.int .u64 0,.int .u64 0,.int .u64 0,.int .u64 0,.int .u64 0] 136)).setCell ⟨W.heap.size + 1 + 1 + 1,0,none⟩ (.int .i64 2) = W5 := ⟨_,rfl⟩
 have hX5 : Arr3 W5 (W.heap.size + 2) a l s := by
  rw [<- hW5]
  exact (HX4.out.below ((Below.refl _ _).alloc (Nat.le_refl _) _) (by omega)).set (by omega)
 have hc5 : W5.cell? ⟨W.heap.size + 3,0,none⟩ = some (.int .i64 2) := by rw [<- hW5];exact World.cell?_setCell_same' _ _ _ (by rw [e5];rfl)
 have hf5 : W5.frozen? ⟨W.heap.size + 3,0,none⟩ = false := by rw [<- hW5];exact (World.frozen?_setCell _ _ _ _).trans f5
 have hs5 : W.heap.size + 5 <= W5.heap.size := by rw [<- hW5];simp [World.setCell];omega
 have HB5 : Hid (Below W.heap.size W W5) := by
  rw [Hid,<- hW5]
  exact ((HB4.out.alloc (by omega) _).setCell (p := ⟨W.heap.size + 1 + 1 + 1,0,none⟩) (by show W.heap.size <= W.heap.size + 1 + 1 + 1;omega) _)
 rw [hW5]
 clear hW5 e4 f4 e5 f5
 refine leaves_cons (f := 193) (args := #[.pointer (some ⟨W.heap.size + 3,0,none⟩),.func (.func 194) #[] #[.pointer (some ⟨W.heap.size + 2,0,none⟩)]]) (by simp) (by simp [go_sem]) ?_
 refine (caught_panics (W.heap.size + 3) (W.heap.size + 2) 180 2 a l s [] _ (by omega) (by omega) hc5 hf5 hX5).mono ?_
 rintro e u' w'' ⟨rfl,rfl,o,rfl⟩
 have hx6 := put3_arr (hX5.set (E := W.heap.size + 3) (v := .int .i64 180) (by omega)) 0 0 0
 have hc6 : (put3 (W5.setCell ⟨W.heap.size + 3,0,none⟩ (.int .i64 180)) (W.heap.size + 2) 0 0 0).cell? ⟨W.heap.size + 3,0,none⟩ = some (.int .i64 180) :=
  (put3_cell _ _ _ 0 0 0 0 (by omega)).trans (World.cell?_setCell_same' _ _ _ (by rw [hc5];rfl))
 have hs6 : W.heap.size + 5 <= (put3 (W5.setCell ⟨W.heap.size + 3,0,none⟩ (.int .i64 180)) (W.heap.size + 2) 0 0 0).heap.size := by simp [put3,World.setCell];omega
 have hb6 : Below W.heap.size W (put3 (W5.setCell ⟨W.heap.size + 3,0,none⟩ (.int .i64 180)) (W.heap.size + 2) 0 0 0) := put3_below (HB5.out.setCell (p := ⟨W.heap.size + 3,0,none⟩) (by show W.heap.size <= W.heap.size + 3;omega) _) (by omega)
 have e180 : ((180 : Nat) : Int) = 180 := rfl
 rw [e180]
 generalize put3 (W5.setCell ⟨W.heap.size + 3,0,none⟩ (.int .i64 180)) (W.heap.size + 2) 0 0 0 = W6 at *
 have hbo : Below W6.heap.size W6 (W6.alloc o) := (Below.refl _ _).alloc (Nat.le_refl _) _
 obtain ⟨⟨g0,g1,g2⟩,_⟩ := hx6.below hbo (by omega)
 have g3 := (hbo.cell (p := ⟨W.heap.size + 3,0,none⟩) (by show W.heap.size + 3 < _;omega)).trans hc6
 have hB7 : Below W.heap.size W (W6.alloc o) := hb6.alloc (by omega) _
 simp [Leaves,settle,results,Tryz.results133,go_sem,g0,g1,g2,g3]
 exact hB7
end
section
open Go.RowKit
theorem Arr8.set {W : World} {L E i : Nat} {f : Nat -> Nat} {v : Value} (h : Arr8 W L f) (hne : E ≠ L) : Arr8 (W.setCell ⟨E,i,none⟩ v) L f :=
 ⟨fun j hj => (World.cell?_setCell_other _ _ _ _ (by intro e;injection e with e;exact hne e)).trans (h.1 j hj),fun j => (World.frozen?_setCell _ _ _ _).trans (h.2 j)⟩
theorem LineAt.set {W : World} {L E i k t : Nat} {v : Value} (h : LineAt W L k t) (hne : E ≠ L) : LineAt (W.setCell ⟨E,i,none⟩ v) L k t := Arr8.set h hne
theorem LineAt.words {W : World} {L k t : Nat} (h : LineAt W L k t) : W.cell? ⟨L,0,none⟩ = some (.int .u64 k) ∧ W.cell? ⟨L,1,none⟩ = some (.int .u64 t) ∧ W.cell? ⟨L,2,none⟩ = some (.int .u64 0) ∧ W.cell? ⟨L,3,none⟩ = some (.int .u64 0) ∧ W.cell? ⟨L,4,none⟩ = some (.int .u64 0) ∧ W.cell? ⟨L,5,none⟩ = some (.int .u64 0) ∧ W.cell? ⟨L,6,none⟩ = some (.int .u64 0) ∧ W.cell? ⟨L,7,none⟩ = some (.int .u64 0) := by
 have h := h.1
 exact ⟨h 0 (by decide),h 1 (by decide),h 2 (by decide),h 3 (by decide),h 4 (by decide),h 5 (by decide),h 6 (by decide),h 7 (by decide)⟩
theorem line_new (W : World) (k t : Nat) (T : TypeId) : LineAt (W.alloc (.cells #[.int .u64 k,.int .u64 t,.int .u64 0,.int .u64 0,.int .u64 0,.int .u64 0,.int .u64 0,.int .u64 0] T)) W.heap.size k t := by
 refine ⟨fun i hi => cell_new W _ T i _ ?_,fun i => by simp⟩
 match i,hi with
 | 0,_ => rfl
 | 1,_ => rfl
 | 2,_ => rfl
 | 3,_ => rfl
 | 4,_ => rfl
 | 5,_ => rfl
 | 6,_ => rfl
 | 7,_ => rfl
theorem run_eql_eight (k t : Nat) (w : World) : (binOp .eql 136 (.agg #[.int .u64 k,.int .u64 t,.int .u64 0,.int .u64 0,.int .u64 0,.int .u64 0,.int .u64 0,.int .u64 0]) (.agg #[.int .u64 k,.int .u64 t,.int .u64 0,.int .u64 0,.int .u64 0,.int .u64 0,.int .u64 0,.int .u64 0])).run Tryz.prog w = .ok (.bool true) w := by
 have hu : Tryz.prog.underlying 136 = some (.array 8 24) := by kernel_rfl
 have u1 : Tryz.prog.underlying 24 = some (.int .u64) := by kernel_rfl
 have hz := Tryz.sizeOf24
 have ha := Tryz.isAgg24
 obtain ⟨i0,hi,_,_,_⟩ := info_parts Tryz.infoU64
 have hc : Tryz.prog.cellsOf 24 = 1 := by kernel_rfl
 simp only [binOp,Op.equal,Op.maxDepth,Sem.run_bind]
 rw [show (10000 : Nat) = 9999 + 1 from rfl,run_equalIn_array w 9999 _ _ hu hi,hc,show List.range 8 = [0,1,2,3,4,5,6,7] from rfl]
 rw [show (9999 : Nat) = 9998 + 1 from rfl]
 simp only [Op.eqItems]
 go_simp
set_option maxRecDepth 100000 in
set_option maxHeartbeats 4000000 in
theorem nodeGet_yes (k t : Nat) (W : World) (hk : k / 256 <= 200) (ht : t < 1024) (hr : nodeRight (k % 256 : Nat) (k / 256 : Nat) t = true) :
  Calls Tryz.prog 133 #[shapeV,encLn k t] W fun e W' => e = .returned (.tuple #[encN (k % 256 : Nat) (k / 256 : Nat) t,.int .i64 0]) ∧ Below W.heap.size W W' := by
 have hmf : ∀ (fn : Fn) (first cap : Array Value) (w : World),(Instr.makeFunc fn first cap).run Tryz.prog w = .ok (.func fn first cap) w := fun _ _ _ _ => rfl
 have e1 : smallI (k / 256) = ((k / 256 : Nat) : Int) := if_pos (by omega)
 have e2 : smallI t = (t : Int) := if_pos (by omega)
 have hRD := fun W => nodeRead_any k t W (by omega) (by omega)
 have hPT := fun W => put_yes (k % 256) (k / 256) t W (Nat.mod_lt _ (by decide)) hk ht hr
 rw [e1,e2] at hRD
 rw [show k % 256 + 256 * (k / 256) = k by omega] at hPT
 have HRD := Lib.hid hRD
 have HPT := Lib.hid hPT
 have HMU := Lib.hid (fun W => nmust_any true 180 W)
 have heq := run_eql_eight k t
 clear hRD hPT e1 e2 hr hk
 generalize k % 256 = a at *
 generalize k / 256 = l at *
 unfold encLn encN at *
 unfold shapeV at *
 go_enter_defers Tryz.func133,Tryz.ntmps133
 go_wp2_with fail
 refine (HRD.out _).mono ?_
 rintro e w2 ⟨rfl,hb2⟩
 obtain ⟨W0,hW0⟩ : ∃ W0,lay4 W #[.func (.func 197) #[] #[],.func (.func 199) #[] #[],.func (.func 202) #[] #[]] #[.int .u64 k,.int .u64 t,.int .u64 0,.int .u64 0,.int .u64 0,.int .u64 0,.int .u64 0,.int .u64 0] #[.int .i64 0,.int .i64 0,.int .i64 0] #[.int .i64 0]
  219 136 46 29 = W0 := ⟨_,rfl⟩
 have hb2 : Below W0.heap.size W0 w2 := hW0 ▸ hb2
 have hsz : W0.heap.size = W.heap.size + 4 := by rw [<- hW0];exact lay4_size ..
 have hs2 : W.heap.size + 4 <= w2.heap.size := by have := hb2.size;omega
 have hbW : Below W.heap.size W W0 := by rw [<- hW0];exact lay4_below ..
 have s0 : w2.cell? ⟨W.heap.size,0,none⟩ = some (.func (.func 197) #[] #[]) := (hb2.cell (p := ⟨W.heap.size,0,none⟩) (by show W.heap.size < _;omega)).trans (by rw [<- hW0];exact lay4_0 _ _ _ _ _ _ _ _ _ 0 _ rfl)
 have s1 : w2.cell? ⟨W.heap.size,1,none⟩ = some (.func (.func 199) #[] #[]) := (hb2.cell (p := ⟨W.heap.size,1,none⟩) (by show W.heap.size < _;omega)).trans (by rw [<- hW0];exact lay4_0 _ _ _ _ _ _ _ _ _ 1 _ rfl)
 have s2 : w2.cell? ⟨W.heap.size,2,none⟩ = some (.func (.func 202) #[] #[]) := (hb2.cell (p := ⟨W.heap.size,2,none⟩) (by show W.heap.size < _;omega)).trans (by rw [<- hW0];exact lay4_0 _ _ _ _ _ _ _ _ _ 2 _ rfl)
 have HX : Hid (Arr3 w2 (W.heap.size + 2) 0 0 0) := Arr3.below (W := W0) (by rw [<- hW0];exact ⟨⟨lay4_2 _ _ _ _ _ _ _ _ _ 0 _ rfl,lay4_2 _ _ _ _ _ _ _ _ _ 1 _ rfl,lay4_2 _ _ _ _ _ _ _ _ _ 2 _ rfl⟩,fun i => lay4_frozen _ _ _ _ _ _ _ _ _ _ i (by omega)⟩) hb2 (by omega)
 have e0 : w2.cell? ⟨W.heap.size + 3,0,none⟩ = some (.int .i64 0) := (hb2.cell (p := ⟨W.heap.size + 3,0,none⟩) (by show W.heap.size + 3 < _;omega)).trans (by rw [<- hW0];exact lay4_3 _ _ _ _ _ _ _ _ _ 0 _ rfl)
 have ef : w2.frozen? ⟨W.heap.size + 3,0,none⟩ = false := (hb2.frozen (p := ⟨W.heap.size + 3,0,none⟩) (by show W.heap.size + 3 < _;omega)).trans (by rw [<- hW0];exact lay4_frozen _ _ _ _ _ _ _ _ _ _ 0 (by omega))
 have HLN : Hid (LineAt w2 (W.heap.size + 1) k t) := LineAt.below (W := W0) (by
  rw [<- hW0]
  refine ⟨fun i hi => ?_,fun i => lay4_frozen _ _ _ _ _ _ _ _ _ _ i (by omega)⟩
  match i,hi with
  | 0,_ => exact lay4_1 _ _ _ _ _ _ _ _ _ 0 _ rfl
  | 1,_ => exact lay4_1 _ _ _ _ _ _ _ _ _ 1 _ rfl
  | 2,_ => exact lay4_1 _ _ _ _ _ _ _ _ _ 2 _ rfl
  | 3,_ => exact lay4_1 _ _ _ _ _ _ _ _ _ 3 _ rfl
  | 4,_ => exact lay4_1 _ _ _ _ _ _ _ _ _ 4 _ rfl
  | 5,_ => exact lay4_1 _ _ _ _ _ _ _ _ _ 5 _ rfl
  | 6,_ => exact lay4_1 _ _ _ _ _ _ _ _ _ 6 _ rfl
  | 7,_ => exact lay4_1 _ _ _ _ _ _ _ _ _ 7 _ rfl) hb2 (by omega)
 have HB2 : Hid (Below W.heap.size W w2) := hbW.trans (hb2.mono (by omega))
 obtain ⟨⟨x0,x1,x2⟩,xf⟩ := HX.out
 have y0 := xf 0
 have y1 := xf 1
 have y2 := xf 2
 have p0 := (put3_cell w2 (W.heap.size + 2) W.heap.size 0 a l t (by omega)).trans s0
 have p1 := (put3_cell w2 (W.heap.size + 2) W.heap.size 1 a l t (by omega)).trans s1
 have p2 := (put3_cell w2 (W.heap.size + 2) W.heap.size 2 a l t (by omega)).trans s2
 obtain ⟨⟨q0,q1,q2⟩,qf⟩ := put3_arr HX.out a l t
 unfold put3 at q0 q1 q2 qf
 clear hb2 hW0 xf qf hbW
 go_wp2_with fail
 have HX3 := Lib.hid (put3_arr HX.out a l t)
 have HB3 := Lib.hid (put3_below HB2.out (X := W.heap.size + 2) (a := a) (b := l) (c := t) (by omega))
 have e3 := (put3_cell w2 (W.heap.size + 2) (W.heap.size + 3) 0 a l t (by omega)).trans e0
 have f3 : (put3 w2 (W.heap.size + 2) a l t).frozen? ⟨W.heap.size + 3,0,none⟩ = false := by unfold put3;rw [World.frozen?_setCell,World.frozen?_setCell,World.frozen?_setCell];exact ef
 have hs3 : W.heap.size + 4 <= (put3 w2 (W.heap.size + 2) a l t).heap.size := by simp [put3,World.setCell];omega
 refine (HPT.out _).mono ?_
 rintro e w4 ⟨rfl,hb4⟩
 have hb4 : Below (put3 w2 (W.heap.size + 2) a l t).heap.size (put3 w2 (W.heap.size + 2) a l t) w4 := hb4
 have e4 : w4.cell? ⟨W.heap.size + 3,0,none⟩ = some (.int .i64 0) := (hb4.cell (p := ⟨W.heap.size + 3,0,none⟩) (by show W.heap.size + 3 < _;omega)).trans e3
 have f4 : w4.frozen? ⟨W.heap.size + 3,0,none⟩ = false := (hb4.frozen (p := ⟨W.heap.size + 3,0,none⟩) (by show W.heap.size + 3 < _;omega)).trans f3
 have HX4 := Lib.hid (HX3.out.below hb4 (by omega))
 have HL4 := Lib.hid (((((HLN.out.set (E := W.heap.size + 2) (i := 0) (v := .int .i64 a) (by omega)).set (E := W.heap.size + 2) (i := 1) (v := .int .i64 l) (by omega)).set (E := W.heap.size + 2) (i := 2) (v := .int .i64 t) (by omega)) : LineAt (put3 w2 (W.heap.size + 2) a l t) _ _ _).below hb4 (by omega))
 have HB4 := Lib.hid (HB3.out.trans (hb4.mono (by omega)))
 have hs4 : W.heap.size + 4 <= w4.heap.size := by have := hb4.size;omega
 have hbA : Below w4.heap.size w4 (w4.alloc (.cells #[.int .u64 k,.int .u64 t,.int .u64 0,.int .u64 0,.int .u64 0,.int .u64 0,.int .u64 0,.int .u64 0] 136)) := (Below.refl _ _).alloc (Nat.le_refl _) _
 have e5 : (w4.alloc (.cells #[.int .u64 k,.int .u64 t,.int .u64 0,.int .u64 0,.int .u64 0,.int .u64 0,.int .u64 0,.int .u64 0] 136)).cell? ⟨W.heap.size + 1 + 1 + 1,0,none⟩ = some (.int .i64 0) := (hbA.cell (p := ⟨W.heap.size + 3,0,none⟩) (by show W.heap.size + 3 < _;omega)).trans e4
 have f5 : (w4.alloc (.cells #[.int .u64 k,.int .u64 t,.int .u64 0,.int .u64 0,.int .u64 0,.int .u64 0,.int .u64 0,.int .u64 0] 136)).frozen? ⟨W.heap.size + 1 + 1 + 1,0,none⟩ = false := (hbA.frozen (p := ⟨W.heap.size + 3,0,none⟩) (by show W.heap.size + 3 < _;omega)).trans f4
 have hN : LineAt (w4.alloc (.cells #[.int .u64 k,.int .u64 t,.int .u64 0,.int .u64 0,.int .u64 0,.int .u64 0,.int .u64 0,.int .u64 0] 136)) w4.heap.size k t := line_new w4 k t _
 have hL5 := (HL4.out.below hbA (by omega)).set (E := W.heap.size + 1 + 1 + 1) (i := 0) (v := .int .i64 0) (by omega)
 have hN5 := hN.set (E := W.heap.size + 1 + 1 + 1) (i := 0) (v := .int .i64 0) (by omega)
 obtain ⟨l0,l1,l2,l3,l4,l5,l6,l7⟩ := hL5.words
 obtain ⟨n0,n1,n2,n3,n4,n5,n6,n7⟩ := hN5.words
 clear hbA hN hL5 hN5 hb4 e3 f3 hs3 s0 s1 s2 p0 p1 p2 q0 q1 q2 y0 y1 y2 x0 x1 x2 e0 ef hs2
 go_wp2_with fail
 obtain ⟨W5,hW5⟩ : ∃ W5,(w4.alloc (.cells #[.int .u64 k,.int .u64 t,.int .u64 0,.int .u64 0,.int .u64 0,.int .u64 0,.int .u64 0,.int .u64 0] 136)).setCell ⟨W.heap.size + 1 + 1 + 1,0,none⟩ (.int .i64 0) = W5 := ⟨_,rfl⟩
 have hX5 : Arr3 W5 (W.heap.size + 2) a l t := by
  rw [<- hW5]
  exact (HX4.out.below ((Below.refl _ _).alloc (Nat.le_refl _) _) (by omega)).set (by omega)
 have hc5 : W5.cell? ⟨W.heap.size + 3,0,none⟩ = some (.int .i64 0) := by rw [<- hW5];exact World.cell?_setCell_same' _ _ _ (by rw [e5];rfl)
 have hf5 : W5.frozen? ⟨W.heap.size + 3,0,none⟩ = false := by rw [<- hW5];exact (World.frozen?_setCell _ _ _ _).trans f5
 have hs5 : W.heap.size + 5 <= W5.heap.size := by rw [<- hW5];simp [World.setCell];omega
 have HB5 : Hid (Below W.heap.size W W5) := by
  rw [Hid,<- hW5]
  exact ((HB4.out.alloc (by omega) _).setCell (p := ⟨W.heap.size + 1 + 1 + 1,0,none⟩) (by show W.heap.size <= W.heap.size + 1 + 1 + 1;omega) _)
 rw [hW5]
 clear hW5 e4 f4 e5 f5 l0 l1 l2 l3 l4 l5 l6 l7 n0 n1 n2 n3 n4 n5 n6 n7
 refine (HMU.out _).mono ?_
 rintro e w' ⟨rfl,rfl⟩
 have HX5 := Lib.hid hX5
 have hx6 := put3_arr hX5 a l t
 have HX6 := Lib.hid hx6
 have hc6 := (put3_cell w' (W.heap.size + 2) (W.heap.size + 3) 0 a l t (by omega)).trans hc5
 have hf6 : (put3 w' (W.heap.size + 2) a l t).frozen? ⟨W.heap.size + 3,0,none⟩ = false := by unfold put3;rw [World.frozen?_setCell,World.frozen?_setCell,World.frozen?_setCell];exact hf5
 unfold put3 at hf6
 obtain ⟨⟨x0,x1,x2⟩,xf⟩ := hX5
 have y0 := xf 0
 have y1 := xf 1
 have y2 := xf 2
 clear xf hx6
 go_wp2_with fail
 have hx7 := HX6.out.set (E := W.heap.size + 3) (v := .int .i64 0) (by omega)
 have hc7 : ((put3 w' (W.heap.size + 2) a l t).setCell ⟨W.heap.size + 3,0,none⟩ (.int .i64 0)).cell? ⟨W.heap.size + 3,0,none⟩ = some (.int .i64 0) := World.cell?_setCell_same' _ _ _ (by unfold put3;rw [hc6];rfl)
 have hb7 : Below W.heap.size W ((put3 w' (W.heap.size + 2) a l t).setCell ⟨W.heap.size + 3,0,none⟩ (.int .i64 0)) := (put3_below HB5.out (by omega)).setCell (p := ⟨W.heap.size + 3,0,none⟩) (by show W.heap.size <= W.heap.size + 3;omega) _
 obtain ⟨W6,hW6⟩ : ∃ W6,((put3 w' (W.heap.size + 2) a l t).setCell ⟨W.heap.size + 3,0,none⟩ (.int .i64 0)) = W6 := ⟨_,rfl⟩
 rw [hW6] at hx7 hc7 hb7
 unfold put3 at hW6
 rw [hW6]
 clear hW6 x0 x1 x2 y0 y1 y2 hc6 hf6 hc5 hf5
 refine leaves_cons (f := 193) (args := #[.pointer (some ⟨W.heap.size + 3,0,none⟩),.func (.func 194) #[] #[.pointer (some ⟨W.heap.size + 2,0,none⟩)]]) (by simp) (by simp [go_sem]) ?_
 refine (caught_idle ⟨W.heap.size + 3,0,none⟩ _ _).mono ?_
 rintro e u' w'' ⟨rfl,rfl,rfl⟩
 obtain ⟨⟨g0,g1,g2⟩,_⟩ := hx7
 simp [Leaves,settle,results,Tryz.results133,go_sem,g0,g1,g2,hc7]
 exact hb7
end
section
open Go.RowKit
theorem badPtr_small (t : Nat) : (!badPtr 1 (smallI t)) = decide (1 <= t ∧ t < 1024) := by
 unfold badPtr smallI
 split
 ·by_cases h1 : 1 <= t <;> by_cases h2 : t < 1024 <;> simp [h1,h2] <;> omega
 ·have : ¬ t < 1024 := by omega
  simp [this]
theorem nodeRight_iff (k t : Nat) : nodeRight (k % 256 : Nat) (smallI (k / 256)) (smallI t) = true ↔ ((k % 256 = 1 ∨ k % 256 = 2 ∧ k / 256 = 1) ∧ 1 <= k / 256 ∧ k / 256 <= 200 ∧ 1 <= t ∧ t < 1024) := by
 unfold nodeRight
 rw [badPtr_small]
 simp only [Bool.and_eq_true,Bool.or_eq_true,beq_iff_eq,decide_eq_true_eq]
 unfold smallI
 split
 ·constructor
  ·rintro ⟨⟨⟨h1,h2⟩,h3⟩,h4⟩;omega
  ·rintro ⟨h1,h2,h3,h4⟩;omega
 ·constructor
  ·rintro ⟨⟨⟨h1,h2⟩,h3⟩,h4⟩;omega
  ·rintro ⟨h1,h2,h3,h4⟩;omega
def nodeOut (k t : Nat) : Value :=
 match nodeP k t with
 | some n => .tuple #[encN n.1 n.2.1 n.2.2,.int .i64 0]
 | none => .tuple #[encN 0 0 0,.int .i64 180]
theorem nodeGet_any (k t : Nat) (W : World) (hk : k < 18446744073709551616) (ht : t < 18446744073709551616) :
  Calls Tryz.prog 133 #[shapeV,encLn k t] W fun e W' => e = .returned (nodeOut k t) ∧ Below W.heap.size W W' := by
 have hiff := nodeRight_iff k t
 by_cases h : ((k % 256 = 1 ∨ k % 256 = 2 ∧ k / 256 = 1) ∧ 1 <= k / 256 ∧ k / 256 <= 200 ∧ 1 <= t ∧ t < 1024)
 ·have hr := hiff.2 h
  have e : nodeOut k t = .tuple #[encN (k % 256 : Nat) (k / 256 : Nat) t,.int .i64 0] := by unfold nodeOut nodeP;rw [if_pos h]
  rw [e]
  rw [show smallI (k / 256) = ((k / 256 : Nat) : Int) from if_pos (by omega),show smallI t = (t : Int) from if_pos (by omega)] at hr
  exact nodeGet_yes k t W h.2.2.1 h.2.2.2.2 hr
 ·have hr : nodeRight (k % 256 : Nat) (smallI (k / 256)) (smallI t) = false := by
   rw [Bool.eq_false_iff];exact fun hh => h (hiff.1 hh)
  have e : nodeOut k t = .tuple #[encN 0 0 0,.int .i64 180] := by unfold nodeOut nodeP;rw [if_neg h]
  rw [e]
  exact nodeGet_no k t W hk ht hr
set_option maxRecDepth 100000 in
set_option maxHeartbeats 4000000 in
theorem getInode_core (k t : Nat) (a l s z : Int) (W : World)
  (HG : ∀ W,Calls Tryz.prog 133 #[shapeV,encLn k t] W fun e W' => e = .returned (.tuple #[encN a l s,.int .i64 z]) ∧ Below W.heap.size W W') :
  Calls Tryz.prog 80 #[encLn k t] W fun e W' => e = .returned (.tuple #[encN a l s,.int .i64 z]) ∧ Below W.heap.size W W' := by
 have HG := Lib.hid HG
 have HI := Lib.hid inodes_any
 unfold encLn encN at *
 go_enter Tryz.func80,Tryz.ntmps80
 go_wp2_with fail
 obtain ⟨W0,hW0⟩ : ∃ W0,(W.alloc (.cells #[.int .u64 k,.int .u64 t,.int .u64 0,.int .u64 0,.int .u64 0,.int .u64 0,.int .u64 0,.int .u64 0] 136)).alloc (.cells #[.int .i64 0,.int .i64 0,.int .i64 0] 46) = W0 := ⟨_,rfl⟩
 have hsz0 : W.heap.size + 2 <= W0.heap.size := by rw [<- hW0];simp
 have hbW : Below W.heap.size W W0 := by rw [<- hW0];exact ((Below.refl _ _).alloc (Nat.le_refl _) _).alloc (by simp) _
 have hL0 : LineAt W0 W.heap.size k t := by rw [<- hW0];exact (line_new W k t _).below (n := W.heap.size + 1) ((Below.refl _ _).alloc (by simp) _) (by omega)
 have hX0 : Arr3 W0 (W.heap.size + 1) 0 0 0 := by
  rw [<- hW0]
  have h := fun i v hv => cell_new (W.alloc (.cells #[.int .u64 k,.int .u64 t,.int .u64 0,.int .u64 0,.int .u64 0,.int .u64 0,.int .u64 0,.int .u64 0] 136)) #[.int .i64 0,.int .i64 0,.int .i64 0] 46 i v hv
  have e : (W.alloc (.cells #[.int .u64 k,.int .u64 t,.int .u64 0,.int .u64 0,.int .u64 0,.int .u64 0,.int .u64 0,.int .u64 0] 136)).heap.size = W.heap.size + 1 := by simp
  rw [e] at h
  exact ⟨⟨h 0 _ rfl,h 1 _ rfl,h 2 _ rfl⟩,fun i => by simp⟩
 have HS0 : Hid (∀ w1,Below (W.heap.size + 1) W0 w1 -> w1.cell? ⟨W.heap.size,0,none⟩ = some (.int .u64 k) ∧ w1.cell? ⟨W.heap.size,1,none⟩ = some (.int .u64 t) ∧ w1.cell? ⟨W.heap.size,2,none⟩ = some (.int .u64 0) ∧ w1.cell? ⟨W.heap.size,3,none⟩ = some (.int .u64 0) ∧ w1.cell? ⟨W.heap.size,4,none⟩ = some (.int .u64 0) ∧ w1.cell? ⟨W.heap.size,5,none⟩ = some (.int .u64 0) ∧ w1.cell? ⟨W.heap.size,6,none⟩ = some (.int .u64 0) ∧ w1.cell? ⟨W.heap.size,7,none⟩ = some (.int .u64 0)) := fun w1 hw => (hL0.below hw (by omega)).words
 have HX0 := Lib.hid hX0
 rw [hW0]
 have hbz : Below (W.heap.size + 2) W0 W0.drew := (Below.refl _ _).drew
 clear hW0 hL0 hX0
 go_region_held3 (fun w1 => w1.cell? ⟨W.heap.size,0,none⟩ = some (.int .u64 k) ∧ w1.cell? ⟨W.heap.size,1,none⟩ = some (.int .u64 t) ∧ w1.cell? ⟨W.heap.size,2,none⟩ = some (.int .u64 0) ∧ w1.cell? ⟨W.heap.size,3,none⟩ = some (.int .u64 0) ∧ w1.cell? ⟨W.heap.size,4,none⟩ = some (.int .u64 0) ∧ w1.cell? ⟨W.heap.size,5,none⟩ = some (.int .u64 0) ∧ w1.cell? ⟨W.heap.size,6,none⟩ = some (.int .u64 0) ∧ w1.cell? ⟨W.heap.size,7,none⟩ = some (.int .u64 0))
  (first | exact HS0.out _ (hbz.mono (Nat.le_succ _)) | assumption | exact HS0.out _ ((((hbz.mono (Nat.le_succ _)).setCell (p := ⟨W.heap.size + 1,0,none⟩) (Nat.le_refl _) _).setCell (p := ⟨W.heap.size + 1,1,none⟩) (Nat.le_refl _) _).setCell (p := ⟨W.heap.size + 1,2,none⟩) (Nat.le_refl _) _))
  ((first
   | (go_at_call 134;refine (HI.out _).mono ?_;rintro e w2 ⟨rfl,hb2⟩;have hbz := hbz.trans (hb2.mono (Nat.le_trans hsz0 hbz.size)))
   | (go_at_call 133;refine (HG.out _).mono ?_;rintro e w2 ⟨rfl,hb2⟩;have hbz := hbz.trans (hb2.mono (Nat.le_trans hsz0 hbz.size));obtain ⟨⟨r0,r1,r2⟩,rf⟩ := HX0.out.below hbz (by omega);have z0 := rf 0;have z1 := rf 1;have z2 := rf 2;clear rf)))
 all_goals
  have hx := put3_arr (HX0.out.below hbz (by omega)) a l s
  have hbF : Below W.heap.size W (put3 w2 (W.heap.size + 1) a l s) := put3_below (hbW.trans (hbz.mono (by omega))) (by omega)
  obtain ⟨⟨g0,g1,g2⟩,_⟩ := hx
  unfold put3 at g0 g1 g2 hbF
  go_wp2_with fail
  refine bodyPost_ret (v := .tuple #[.agg #[.int .i64 a,.int .i64 l,.int .i64 s],.int .i64 z]) (by simp [results,Tryz.results80,go_sem,g0,g1,g2]) rfl ⟨rfl,hbF⟩
theorem getInode_any (k t : Nat) (W : World) (hk : k < 18446744073709551616) (ht : t < 18446744073709551616) :
  Calls Tryz.prog 80 #[encLn k t] W fun e W' => e = .returned (nodeOut k t) ∧ Below W.heap.size W W' := by
 have hG := fun W => nodeGet_any k t W hk ht
 unfold nodeOut at *
 cases h : nodeP k t with
 | none =>
  simp only [h] at hG
  exact getInode_core k t 0 0 0 180 W hG
 | some n =>
  simp only [h] at hG
  exact getInode_core k t _ _ _ 0 W hG
end
end Go.Proofs.YtdpooagnbmpinaaGreatDoor
