import Derived.Test.YtdpooagnbmpinaaGreatDoorZEM
import Derived.Test.YtdpooagnbmpinaaGreatDoorZT6
namespace Go.Proofs.YtdpooagnbmpinaaGreatDoor
section
open Go.RowKit
attribute [local go_sem] Oper.semAt_some
theorem run_append_make {P : Program} (w : World) (t u ty e : TypeId) (i : TypeInfo) (z : Value) (ht : P.underlying t = some (.slice e)) (hu : P.underlying u = some (.int .i64)) (hi : P.info? e = some i) (hz : i.zero = some z)
  (n : Nat) (h0 : 0 < n) (hn : n <= 448) (hb : i.bytes = 1) (hs : i.size = 1) :
  (Builtin.append_ #[t,u] ty #[.slice none 0 0,.int .i64 n]).run P w =
   .ok (.slice (some ⟨w.heap.size,0,none⟩) n (grownCap w n 0 e)) (w.drew.alloc (.cells (Builtin.zeroCells z.cells n ++ Builtin.zeroCells z.cells (grownCap w n 0 e - n)) e)) := by
 have hn0 : n ≠ 0 := by omega
 have h1 : ¬ ((n : Int) < 0) := by omega
 have h2 : ¬ (281474976710656 < (n : Int)) := by omega
 have h3 : ¬ (9223372036854775807 < (n : Int)) := by omega
 have h4 : ¬ (281474976710656 < Builtin.nextslicecap n 0) := by rw [nextslicecap_zero h0];omega
 have hw : IntKind.i64.wrap (n : Int) = n := IntWalk.i64_in _ (by omega)
 simp [Builtin.append_,run_underlying ht,run_underlying hu,sizeOf,typeInfo,zeroValue,hi,hz,hb,hs,asInt,asIntOf,hw,h1,h2,h3,h4,hn0,Question.forced,run_firstCells_none,newRow,grownCap]
theorem fitsL_any (xs : List Int) (n b : Nat) (W : World) (hl : xs.length = n) (hn : n <= 100) (hc : ∀ j x,xs[j]? = some x -> W.cell? ⟨b,j,none⟩ = some (.int .i64 x)) :
  Calls Tryz.prog 119 #[.slice (some ⟨b,0,none⟩) n n] W fun e W' => e = .returned (.bool (!xs.any (fun x => decide (448 < x)))) ∧ Below W.heap.size W W' := by
 have hC := AnyE.slices_ContainsFunc Tryz.containsInt (enc := fun n : Int => .int .i64 n) (fun x => decide (448 < x)) 179 #[] (enters_of Tryz.func179 (by kernel_rfl) rfl)
  b 0 n n xs W
  (fun W1 x _ => by
   refine (fits1_any x W1).mono ?_
   rintro e w' ⟨rfl,rfl⟩
   exact ⟨rfl,0,rfl⟩)
  (by omega) (by omega)
  (fun j hj => by
   rw [Nat.zero_add]
   have e : xs[j]? = some xs[j]! := by rw [List.getElem?_eq_getElem hj];simp [hj]
   exact hc j _ e)
 rw [List.take_of_length_le (by omega)] at hC
 have HC := Lib.hid hC
 clear hC
 generalize xs.any (fun x => decide (448 < x)) = q at *
 go_enter Tryz.func119,Tryz.ntmps119
 go_wp2_with (go_at_call 170;refine HC.out.mono ?_;rintro e w' ⟨rfl,k,rfl⟩)
 go_ret
 exact ⟨rfl,below_drewN (Below.refl _ _) k⟩
theorem fileRead_neg (A : Option Addr) (n c : Nat) (a m : Int) (h : a < 0 ∨ m < 0) (W : World) :
  Calls Tryz.prog 65 #[.slice A n c,.int .i64 a,.int .i64 m] W fun e W' => e = .returned (.tuple #[.slice none 0 0,.int .i64 2]) ∧ W' = W := by
 by_cases ha : a < 0
 ·have h1 : decide (a < 0) = true := decide_eq_true ha
  go_enter Tryz.func65,Tryz.ntmps65
  go_wp2
  go_ret2
  exact ⟨rfl,rfl⟩
 ·have hm : m < 0 := by omega
  have h1 : decide (a < 0) = false := decide_eq_false ha
  have h2 : decide (m < 0) = true := decide_eq_true hm
  go_enter Tryz.func65,Tryz.ntmps65
  go_wp2
  go_ret2
  exact ⟨rfl,rfl⟩
theorem begun_nil (W : World) : Calls Tryz.prog 168 #[.slice none 0 0] W fun e W' => e = .returned (.pointer (some ⟨W.heap.size,0,none⟩)) ∧ CellsAt W' W.heap.size 1 (fun _ => .slice none 0 0) ∧ W'.heap.size = W.heap.size + 1 ∧ Below W.heap.size W W' := by
 have HCL := Lib.hid (fun W => AnyE.slices_Clone_nil Tryz.cloneByte 0 0 W)
 go_enter Tryz.func168,Tryz.ntmps168
 go_wp2_with (go_at_call 120;refine (HCL.out _).mono ?_;rintro e w3 ⟨rfl,rfl⟩)
 go_ret
 exact ⟨rfl,cellsAt_new _ _ _ _ _ fun i hi => by rw [show i = 0 from by omega];rfl,by simp,(Below.refl _ _).alloc (Nat.le_refl _) _⟩
end
section
open Go.RowKit
attribute [local go_sem] Oper.semAt_some
theorem Tryz.underInt : Tryz.prog.underlying 3 = some (.int .i64) := by kernel_rfl
theorem wpList_append_known {P : Program} {ops : Array Oper} {rest : List Oper} {o : Oper} {a : Act} {w : World} {Q : Exit -> Act -> World -> Prop} (hgd : o.guard = none) (s x : Operand) (t u : TypeId)
  (ho : o.op = .call { callee := .builtin .append,args := #[s,x],argTypes := #[t,u] }) (vs vx v : Value) (w' : World) (hs : a.eval s = vs) (hx : a.eval x = vx) (hr : ∀ ty,(Builtin.append_ #[t,u] ty #[vs,vx]).run P w = .ok v w')
  (h : wpList P ops Q rest (a.put o.dst v) w') : wpList P ops Q (o :: rest) a w := by
 refine wpList_plain hgd fun _ hK => ?_
 unfold Oper.wp execOp
 simp only [ho,resolve,invoke,builtin,Sem.run_bind,Sem.run_pure,Result.andThen_ok,List.map_toArray,List.map_cons,List.map_nil,hs,hx,hr]
 exact hK _ _ h
theorem zeroCells_get (n i : Nat) (z : Value) (h : i < n) : (Builtin.zeroCells #[z] n)[i]? = some z := by
 unfold Builtin.zeroCells
 rw [Array.getElem?_map,Array.getElem?_range,if_pos (by simpa using h)]
 simp [Nat.mod_one]
def DataAt (W : World) (X n : Nat) (base : Nat) : Prop :=
 ∃ A c,W.cell? ⟨X,0,none⟩ = some (.slice A n c) ∧ n <= c ∧ c <= maxLen ∧ ((A = none ∧ n = 0 ∧ c = 0) ∨ ∃ g,A = some ⟨g,0,none⟩ ∧ base <= g ∧ g ≠ X ∧ CellsAt W g n (fun _ => .int .u8 0))
set_option maxRecDepth 100000 in
set_option maxHeartbeats 4000000 in
theorem reach_any (X n : Nat) (W : World) (hn : n <= 448) (hc : CellsAt W X 1 (fun _ => .slice none 0 0)) :
  Calls Tryz.prog 169 #[.pointer (some ⟨X,0,none⟩),.int .i64 n] W fun e W' => e = .returned (.tuple #[]) ∧ DataAt W' X n W.heap.size ∧ (∀ B,B <= X -> Below B W W') ∧ W.heap.size <= W'.heap.size := by
 obtain ⟨i0,hi,hz0,hz1,hz2⟩ := info_parts Tryz.infoU8
 have hXl : X < W.heap.size := World.block_lt_of_cell? W ⟨X,0,none⟩ (hc.1 0 (by omega))
 have c0 := hc.1 0 (by omega)
 have f0 := hc.2 0
 by_cases h0 : n = 0
 ·subst h0
  go_enter Tryz.func169,Tryz.ntmps169
  go_wp2
  go_end0
  exact ⟨rfl,⟨none,0,c0,Nat.le_refl _,by simp [maxLen],.inl ⟨rfl,rfl,rfl⟩⟩,fun B _ => Below.refl _ _,Nat.le_refl _⟩
 ·have hap := fun W ty => run_append_make (P := Tryz.prog) W 26 3 ty 5 i0 (.int .u8 0) Tryz.underlyingBytes Tryz.underInt hi hz0 n (by omega) hn hz2 hz1
  go_enter Tryz.func169,Tryz.ntmps169
  have hne : ¬ ((n : Int) <= 0) := by omega
  go_wp2_with (at_builtin;refine wpList_append_known rfl _ _ _ _ rfl _ _ _ _ rfl rfl (fun ty => hap W ty) ?_)
  go_end0
  obtain ⟨cap,hcap⟩ : ∃ cap,grownCap W n 0 5 = cap := ⟨_,rfl⟩
  have hcl : n <= cap ∧ cap <= maxLen := by
   rw [<- hcap]
   exact ⟨grownCap_ge _ _ _ _,grownCap_le_maxLen _ _ _ _ (by unfold maxLen;omega)⟩
  rw [hcap]
  obtain ⟨W1,hW1⟩ : ∃ W1,W.setCell ⟨X,0,none⟩ (.slice (some ⟨W.heap.size,0,none⟩) n cap) = W1 := ⟨_,rfl⟩
  have s1 : W1.heap.size = W.heap.size := by rw [<- hW1];simp [World.setCell]
  have d0 : W1.cell? ⟨X,0,none⟩ = some (.slice (some ⟨W.heap.size,0,none⟩) n cap) := by rw [<- hW1];exact World.cell?_setCell_same' _ _ _ (by rw [c0];rfl)
  have b1 : ∀ B,B <= X -> Below B W W1 := fun B hB => by rw [<- hW1];exact (Below.refl B W).setCell (by show B <= X;exact hB) _
  rw [hW1]
  have hzc : CellsAt (W1.alloc (.cells (Builtin.zeroCells #[.int .u8 0] n ++ Builtin.zeroCells #[.int .u8 0] (cap - n)) 5)) W1.heap.size n (fun _ => .int .u8 0) :=
   cellsAt_new _ _ _ _ _ fun i hi => by rw [Array.getElem?_append_left (by rw [size_zeroCells];simpa using hi)];exact zeroCells_get n i _ hi
  rw [s1] at hzc
  have hb2 : Below W1.heap.size W1 (W1.alloc (.cells (Builtin.zeroCells #[.int .u8 0] n ++ Builtin.zeroCells #[.int .u8 0] (cap - n)) 5)).drew := ((Below.refl _ _).alloc (Nat.le_refl _) _).drew
  refine ⟨rfl,⟨_,_,(hb2.cell (p := ⟨X,0,none⟩) (by show X < _;omega)).trans d0,hcl.1,hcl.2,.inr ⟨_,rfl,Nat.le_refl _,by omega,hzc⟩⟩,fun B hB => (b1 B hB).trans (hb2.mono (by omega)),by have := hb2.size;omega⟩
def cutN (n : Int) : Int := if n < 0 then 2 else if 448 < n then 190 else 0
set_option maxRecDepth 100000 in
set_option maxHeartbeats 4000000 in
theorem cut_nil (n : Int) (W : World) :
  Calls Tryz.prog 107 #[.slice none 0 0,.int .i64 n] W fun e W' => (∃ v,e = .returned (.tuple #[v,.int .i64 (cutN n)])) ∧ Below W.heap.size W W' := by
 have HBG := Lib.hid (begun_nil W)
 by_cases h1 : n < 0
 ·have e1 : cutN n = 2 := by unfold cutN;rw [if_pos h1]
  rw [e1]
  go_enter Tryz.func107,Tryz.ntmps107
  have hd : decide (n < 0) = true := decide_eq_true h1
  go_wp2_with fail
  refine wp_scope_fwd 1 ?_
  go_wp2_with (first | go_step3 | (go_at_call 168;refine HBG.out.mono ?_;rintro e w2 ⟨rfl,hc,hs,hb⟩;have hcx := hc.1 0 (by omega)))
  refine fwd_goto _ rfl ?_
  go_wp2_with go_step3
  rw [fwd_ret]
  refine bodyPost_ret (v := .tuple #[.slice none 0 0,.int .i64 2]) (by simp [results,Tryz.results107,go_sem]) rfl ?_
  exact ⟨⟨_,rfl⟩,hb⟩
 ·have hd : decide (n < 0) = false := decide_eq_false h1
  by_cases h2 : 448 < n
  ·have e1 : cutN n = 190 := by unfold cutN;rw [if_neg h1,if_pos h2]
   rw [e1]
   have hq : (![0,n].any fun x => decide (448 < x)) = false := by simp;exact h2
   have HF : Hid (∀ w : World,w.heap.size = W.heap.size + 1 -> Calls Tryz.prog 119 #[.slice (some ⟨W.heap.size + 1,0,none⟩) 2 2] (w.alloc (.cells #[.int .i64 0,.int .i64 n] 3)) fun e w3 => e = .returned (.bool false) ∧ Below (W.heap.size + 2) (w.alloc (.cells #[.int .i64 0,.int .i64 n] 3)) w3) := fun w hw => by
    have := fitsL_any [0,n] 2 (W.heap.size + 1) (w.alloc (.cells #[.int .i64 0,.int .i64 n] 3)) rfl (by omega) (fun j x hj => by
     rw [<- hw]
     match j,hj with
     | 0,hj => cases hj;exact cell_new _ _ _ 0 _ rfl
     | 1,hj => cases hj;exact cell_new _ _ _ 1 _ rfl)
    rw [hq,show (w.alloc (.cells #[.int .i64 0,.int .i64 n] 3)).heap.size = W.heap.size + 2 from by simp;omega] at this
    exact this
   go_enter Tryz.func107,Tryz.ntmps107
   go_wp2_with fail
   refine wp_scope_fwd 1 ?_
   go_wp2_with (first
    | go_step3
    | (go_at_call 168;refine HBG.out.mono ?_;rintro e w2 ⟨rfl,hc,hs,hb⟩;have hcx := hc.1 0 (by omega))
    | (go_at_call 119;refine (HF.out _ hs).mono ?_;rintro e w3 ⟨rfl,hb3⟩))
   refine fwd_goto _ rfl ?_
   go_wp2_with go_step3
   rw [fwd_ret]
   refine bodyPost_ret (v := .tuple #[.slice none 0 0,.int .i64 190]) (by simp [results,Tryz.results107,go_sem]) rfl ?_
   exact ⟨⟨_,rfl⟩,hb.trans (((Below.refl w2.heap.size w2).alloc (Nat.le_refl _) _).trans (hb3.mono (by omega)) |>.mono (by omega))⟩
  ·have e1 : cutN n = 0 := by unfold cutN;rw [if_neg h1,if_neg h2]
   rw [e1]
   have hq : (![0,n].any fun x => decide (448 < x)) = true := by simp;omega
   have HF : Hid (∀ w : World,w.heap.size = W.heap.size + 1 -> Calls Tryz.prog 119 #[.slice (some ⟨W.heap.size + 1,0,none⟩) 2 2] (w.alloc (.cells #[.int .i64 0,.int .i64 n] 3)) fun e w3 => e = .returned (.bool true) ∧ Below (W.heap.size + 2) (w.alloc (.cells #[.int .i64 0,.int .i64 n] 3)) w3) := fun w hw => by
    have := fitsL_any [0,n] 2 (W.heap.size + 1) (w.alloc (.cells #[.int .i64 0,.int .i64 n] 3)) rfl (by omega) (fun j x hj => by
     rw [<- hw]
     match j,hj with
     | 0,hj => cases hj;exact cell_new _ _ _ 0 _ rfl
     | 1,hj => cases hj;exact cell_new _ _ _ 1 _ rfl)
    rw [hq,show (w.alloc (.cells #[.int .i64 0,.int .i64 n] 3)).heap.size = W.heap.size + 2 from by simp;omega] at this
    exact this
   obtain ⟨k,rfl⟩ : ∃ k : Nat,n = k := ⟨n.toNat,by omega⟩
   have HRC := Lib.hid (fun w hc => reach_any W.heap.size k w (by omega) hc)
   go_enter Tryz.func107,Tryz.ntmps107
   go_wp2_with fail
   refine wp_scope_fwd 1 ?_
   go_wp2_with (first
    | go_step3
    | (go_at_call 168;refine HBG.out.mono ?_;rintro e w2 ⟨rfl,hc,hs,hb⟩;have hcx := hc.1 0 (by omega))
    | (go_at_call 119;refine (HF.out _ hs).mono ?_;rintro e w3 ⟨rfl,hb3⟩)
    | (go_at_call 169;refine (HRC.out _ (hc.below (m := W.heap.size + 1) (((Below.refl _ w2).alloc (by omega) _).trans (hb3.mono (by omega))) (by omega))).mono ?_;rintro e w4 ⟨rfl,⟨A4,c4,hx4,h41,h42,hA4⟩,hb4,hs4⟩;have hk4 : (k : Int) <= (c4 : Int) := by omega))
   rw [fwd_ret]
   refine bodyPost_ret (v := .tuple #[.slice A4 k k,.int .i64 0]) (by simp [results,Tryz.results107,go_sem]) rfl ?_
   exact ⟨⟨_,rfl⟩,hb.trans ((((Below.refl w2.heap.size w2).alloc (Nat.le_refl _) _).trans (hb3.mono (by omega))).mono (by omega) |>.trans (hb4 _ (Nat.le_refl _)))⟩
end
end Go.Proofs.YtdpooagnbmpinaaGreatDoor
