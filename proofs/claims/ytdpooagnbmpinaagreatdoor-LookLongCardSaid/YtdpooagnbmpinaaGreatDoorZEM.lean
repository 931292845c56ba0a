import Derived.Test.YtdpooagnbmpinaaGreatDoorZEJ
import Derived.Test.YtdpooagnbmpinaaGreatDoorZU1
namespace Go.Proofs.YtdpooagnbmpinaaGreatDoor
section
open Go.RowKit Go.Maps
attribute [local go_sem] Oper.semAt_some
theorem Tryz.underlyingLooks : Tryz.prog.underlying 66 = some (.map 25 65) := by kernel_rfl
def kindF : Nat -> Value
 | 1 => .func (.func 34) #[] #[]
 | 2 => .func (.func 35) #[] #[]
 | _ => .func (.func 36) #[] #[]
def kindsD : DataW Value := putsD kindF (.map []) [1,2,3]
theorem kindsD_at (k : Nat) (h1 : 1 <= k) (h2 : k <= 3) (z : DataW Value) : kindsD.atKey (.int .i64 (k : Nat)) z = .held (kindF k) := by
 unfold kindsD
 rw [putsD_at kindF k z _ _ isMap_empty,if_pos (by simp;omega)]
theorem kinds_any (W : World) :
  Calls Tryz.prog 21 #[] W fun e W' => e = .returned (.map (some W.heap.size)) ∧ W'.ownsMap Tryz.prog 25 heldV W.heap.size 3 kindsD ∧ Below W.heap.size W W' := by
 have hmm := @run_makeMap Tryz.prog
 have HBC1 : Hid (Below W.heap.size W (W.alloc (.map #[] 0))) := (Below.refl _ W).alloc (Nat.le_refl _) _
 have HOC1 : Hid ((W.alloc (.map #[] 0)).ownsMap Tryz.prog 25 heldV W.heap.size 0 (.map [])) := World.ownsMap_made W _ _ _
 have HK := Lib.hid (fun (W1 W2 : World) (hb : Below W.heap.size W W1) (hg : W1.grownBy W2 (some W.heap.size)) => below_grown hb hg (Nat.le_refl _) (Nat.le_refl _))
 have ti1 : True := trivial
 have ti2 : True := trivial
 have ti3 : True := trivial
 go_enter Tryz.func21,Tryz.ntmps21
 go_wp2_with (first
  | (have _t := ti1;refine wpList_insert_own _ rfl _ _ _ 66 rfl 25 65 keyedK Tryz.underlyingLooks W.heap.size 0 _ rfl HOC1.out (by decide) _ _ _ rfl rfl (keyK (by decide)) ?_;intro w1 ho hg;have HO1 := Lib.hid ho;have HB1 := Lib.hid (HK.out _ _ HBC1.out hg);clear ho hg ti1 _t)
  | (have _t := ti2;refine wpList_insert_own _ rfl _ _ _ 66 rfl 25 65 keyedK Tryz.underlyingLooks W.heap.size 1 _ rfl HO1.out (by decide) _ _ _ rfl rfl (keyK (by decide)) ?_;intro w2 ho hg;have HO2 := Lib.hid ho;have HB2 := Lib.hid (HK.out _ _ HB1.out hg);clear ho hg ti2 _t)
  | (have _t := ti3;refine wpList_insert_own _ rfl _ _ _ 66 rfl 25 65 keyedK Tryz.underlyingLooks W.heap.size 2 _ rfl HO2.out (by decide) _ _ _ rfl rfl (keyK (by decide)) ?_;intro w3 ho hg;have HO3 := Lib.hid ho;have HB3 := Lib.hid (HK.out _ _ HB2.out hg);clear ho hg ti3 _t))
 go_ret
 exact ⟨rfl,HO3.out,HB3.out⟩
theorem kinds_at {W : World} {b : Nat} (h : W.ownsMap Tryz.prog 25 heldV b 3 kindsD) (k : Nat) (hk : 1 <= k ∧ k <= 3) :
  (Instr.lookup 66 (.map (some b)) (.int .i64 k) false).run Tryz.prog W = .ok (kindF k) W := by
 have hz : (zeroValue 65).run Tryz.prog W = .ok .nilFunc W := by kernel_rfl
 have hwf : (Lit.int .i64 (k : Nat)).wf = true := by
  have h3 : k = 1 ∨ k = 2 ∨ k = 3 := by omega
  rcases h3 with rfl | rfl | rfl <;> decide
 obtain ⟨v,h1,h2⟩ := held_look h keyedK Tryz.underlyingLooks hz (key := .int .i64 k) (keyK hwf)
 rw [kindsD_at k hk.1 hk.2] at h2
 have e : kindF k = v := by injection h2
 exact h1.trans (congrArg (fun x => Result.ok x W) e.symm)
end
section
open Go.RowKit
attribute [local go_sem] Oper.semAt_some
theorem asl_need_nil (w : World) : (Instr.typeAssert .nilIface 20 95 true).run Tryz.prog w = .ok (.tuple #[.int .i64 0,.bool false]) w := by kernel_rfl
theorem asl_err_nil (w : World) : (Instr.typeAssert .nilIface 20 29 true).run Tryz.prog w = .ok (.tuple #[.int .i64 0,.bool false]) w := by kernel_rfl
theorem asl_need_need (n : Int) (w : World) : (Instr.typeAssert (.iface 95 (.int .i64 n)) 20 95 true).run Tryz.prog w = .ok (.tuple #[.int .i64 n,.bool true]) w := by kernel_rfl
theorem asl_need_err (n : Int) (w : World) : (Instr.typeAssert (.iface 29 (.int .i64 n)) 20 95 true).run Tryz.prog w = .ok (.tuple #[.int .i64 0,.bool false]) w := by kernel_rfl
theorem asl_err_err (n : Int) (w : World) : (Instr.typeAssert (.iface 29 (.int .i64 n)) 20 29 true).run Tryz.prog w = .ok (.tuple #[.int .i64 n,.bool true]) w := by kernel_rfl
structure RecoversL (f : FuncId) : Prop where
 idle : ∀ (A M E : Addr) (w : World),CallsD Tryz.prog f #[.pointer (some A),.pointer (some M),.pointer (some E)] .returning w fun e u' w' => e = .returned (.tuple #[]) ∧ u' = .returning ∧ w' = w
 need : ∀ (A M E p : Nat) (older : List PanicEntry) (a0 m0 : Value) (w : World),A ≠ M -> w.cell? ⟨A,0,none⟩ = some a0 -> w.frozen? ⟨A,0,none⟩ = false -> w.cell? ⟨M,0,none⟩ = some m0 -> w.frozen? ⟨M,0,none⟩ = false ->
  CallsD Tryz.prog f #[.pointer (some ⟨A,0,none⟩),.pointer (some ⟨M,0,none⟩),.pointer (some ⟨E,0,none⟩)] (.panicking (needU p :: older)) w fun e u' w' =>
   e = .returned (.tuple #[]) ∧ u' = .panicking ({ v := .iface 95 (.int .i64 p),recovered := true } :: older) ∧ w' = (w.setCell ⟨A,0,none⟩ (.int .i64 p)).setCell ⟨M,0,none⟩ (.bool true)
 err : ∀ (A M E c : Nat) (older : List PanicEntry) (e0 : Value) (w : World),w.cell? ⟨E,0,none⟩ = some e0 -> w.frozen? ⟨E,0,none⟩ = false ->
  CallsD Tryz.prog f #[.pointer (some ⟨A,0,none⟩),.pointer (some ⟨M,0,none⟩),.pointer (some ⟨E,0,none⟩)] (.panicking (errV c :: older)) w fun e u' w' =>
   e = .returned (.tuple #[]) ∧ u' = .panicking ({ v := .iface 29 (.int .i64 c),recovered := true } :: older) ∧ w' = w.setCell ⟨E,0,none⟩ (.int .i64 c)
set_option maxRecDepth 100000 in
theorem look_recovers : RecoversL 33 := by
 refine ⟨fun A M E w => ?_,fun A M E p older a0 m0 w hne hA hAf hM hMf => ?_,fun A M E c older e0 w hE hEf => ?_⟩
 ·refine callsD_of_wpS Tryz.func33 rfl fun c₀ cs hu => ?_
  simp only [Tryz.ntmps33,List.size_toArray,List.length_cons,List.length_nil,Nat.reduceAdd,Nat.reduceSub,Array.replicate_succ,Array.replicate_zero,List.push_toArray,List.append_toArray,List.nil_append,List.cons_append]
  apply wpS_seq
  apply wpS_region
  simp [wpOpsS,go_sem,recoverD,hu,Exit.thenS]
  refine wpS_of_wp ?_
  have h1 := asl_need_nil
  have h2 := asl_err_nil
  go_wp2
  cases c₀
  simp_all [bodyPostS,results,Tryz.results33]
 ·refine callsD_of_wpS Tryz.func33 rfl fun c₀ cs hu => ?_
  simp only [Tryz.ntmps33,List.size_toArray,List.length_cons,List.length_nil,Nat.reduceAdd,Nat.reduceSub,Array.replicate_succ,Array.replicate_zero,List.push_toArray,List.append_toArray,List.nil_append,List.cons_append]
  apply wpS_seq
  apply wpS_region
  simp [wpOpsS,go_sem,recoverD,hu,Exit.thenS,needU]
  refine wpS_of_wp ?_
  have h1 := asl_need_need
  have k1 : (w.setCell ⟨A,0,none⟩ (.int .i64 p)).cell? ⟨M,0,none⟩ = some m0 := (World.cell?_setCell_other _ _ _ _ (by intro e;injection e with e;exact hne e)).trans hM
  have k2 : (w.setCell ⟨A,0,none⟩ (.int .i64 p)).frozen? ⟨M,0,none⟩ = false := (World.frozen?_setCell _ _ _ _).trans hMf
  go_wp2
  exact ⟨rfl,_,rfl,.tuple #[],results_none rfl _ _ _,rfl,rfl,rfl⟩
 ·refine callsD_of_wpS Tryz.func33 rfl fun c₀ cs hu => ?_
  simp only [Tryz.ntmps33,List.size_toArray,List.length_cons,List.length_nil,Nat.reduceAdd,Nat.reduceSub,Array.replicate_succ,Array.replicate_zero,List.push_toArray,List.append_toArray,List.nil_append,List.cons_append]
  apply wpS_seq
  apply wpS_region
  simp [wpOpsS,go_sem,recoverD,hu,Exit.thenS,errV]
  refine wpS_of_wp ?_
  have h1 := asl_need_err
  have h2 := asl_err_err
  go_wp2
  exact ⟨rfl,_,rfl,.tuple #[],results_none rfl _ _ _,rfl,rfl,rfl⟩
def resZV : Value := .agg #[.int .i64 0,.int .i64 0,.int .i64 0,.int .i64 0,.slice none 0 0,.slice none 0 0]
variable {R : Nat} {FA : Option Addr} {nf cf : Nat} {fed ats : List Nat}
def ToldR (R : Nat) (FA : Option Addr) (nf cf : Nat) (fed : List Nat) (W : World) (r : Res ResP) (e : Ending) (W' : World) : Prop :=
 (match r with
  | .val a l => ∃ v,e = .returned (.tuple #[v,.int .i64 0,.int .i64 0,.bool false]) ∧ ResAt W.heap.size W' a v ∧ RuAt R FA nf cf fed l.length W'
  | .stop (.need p) _ => e = .returned (.tuple #[resZV,.int .i64 0,.int .i64 p,.bool true]) ∧ ∃ u,RuAt R FA nf cf fed u W'
  | .stop (.err c) l => e = .returned (.tuple #[resZV,.int .i64 c,.int .i64 0,.bool false]) ∧ RuAt R FA nf cf fed l.length W') ∧ UB R W.heap.size W W'
def cellsO (r : ResP) (NA : Option Addr) (nn nc : Nat) (BA : Option Addr) (bn bc : Nat) : Nat -> Value
 | 0 => .int .i64 r.no
 | 1 => .int .i64 r.kind
 | 2 => .int .i64 r.links
 | 3 => .int .i64 r.n
 | 4 => .slice NA nn nc
 | _ => .slice BA bn bc
set_option maxRecDepth 100000 in
set_option maxHeartbeats 4000000 in
theorem toldL_any (Ob Rp : Nat) (r : Res ResP) (W : World) (h : RuAt R FA nf cf fed ats.length W)
  (hread : ∀ W',Below W.heap.size W W' -> Calls Tryz.prog 20 #[.pointer (some ⟨Ob,0,none⟩),.pointer (some ⟨Rp,0,none⟩)] W' (ReadsR R FA nf cf fed W' r)) :
  Calls Tryz.prog 19 #[.func (.func 20) #[] #[.pointer (some ⟨Ob,0,none⟩),.pointer (some ⟨Rp,0,none⟩)]] W (ToldR R FA nf cf fed W r) := by
 have hmf : ∀ (fn : Fn) (first cap : Array Value) (w : World),(Instr.makeFunc fn first cap).run Tryz.prog w = .ok (.func fn first cap) w := fun _ _ _ _ => rfl
 obtain ⟨W0,hW0⟩ : ∃ W0,lay4 W #[.int .i64 0,.int .i64 0,.int .i64 0,.int .i64 0,.slice none 0 0,.slice none 0 0] #[.int .i64 0] #[.int .i64 0] #[.bool false] 33 29 3 4 = W0 := ⟨_,rfl⟩
 have hb0 : Below W.heap.size W W0 := by rw [<- hW0];exact lay4_below ..
 have hs0 : W0.heap.size = W.heap.size + 4 := by rw [<- hW0];exact lay4_size ..
 have HRD := Lib.hid (hread W0 hb0)
 have HF := Lib.hid (fun b (hb : W.heap.size <= b) => h.off hb)
 have HCO : Hid (CellsAt W0 W.heap.size 6 (cellsR 0 0 0 0)) := ⟨fun i hi => by
  rw [<- hW0]
  match i,hi with
  | 0,_ => exact lay4_0 _ _ _ _ _ _ _ _ _ 0 _ rfl
  | 1,_ => exact lay4_0 _ _ _ _ _ _ _ _ _ 1 _ rfl
  | 2,_ => exact lay4_0 _ _ _ _ _ _ _ _ _ 2 _ rfl
  | 3,_ => exact lay4_0 _ _ _ _ _ _ _ _ _ 3 _ rfl
  | 4,_ => exact lay4_0 _ _ _ _ _ _ _ _ _ 4 _ rfl
  | 5,_ => exact lay4_0 _ _ _ _ _ _ _ _ _ 5 _ rfl,fun i => by rw [<- hW0];exact lay4_frozen _ _ _ _ _ _ _ _ _ _ i (Nat.le_refl _)⟩
 have HCE : Hid (CellsAt W0 (W.heap.size + 1) 1 (fun _ => .int .i64 0)) := ⟨fun i hi => by rw [<- hW0,show i = 0 from by omega];exact lay4_1 _ _ _ _ _ _ _ _ _ 0 _ rfl,fun i => by rw [<- hW0];exact lay4_frozen _ _ _ _ _ _ _ _ _ _ i (by omega)⟩
 have HCA : Hid (CellsAt W0 (W.heap.size + 2) 1 (fun _ => .int .i64 0)) := ⟨fun i hi => by rw [<- hW0,show i = 0 from by omega];exact lay4_2 _ _ _ _ _ _ _ _ _ 0 _ rfl,fun i => by rw [<- hW0];exact lay4_frozen _ _ _ _ _ _ _ _ _ _ i (by omega)⟩
 have HCM : Hid (CellsAt W0 (W.heap.size + 3) 1 (fun _ => .bool false)) := ⟨fun i hi => by rw [<- hW0,show i = 0 from by omega];exact lay4_3 _ _ _ _ _ _ _ _ _ 0 _ rfl,fun i => by rw [<- hW0];exact lay4_frozen _ _ _ _ _ _ _ _ _ _ i (by omega)⟩
 have HB0 : Hid (UB R W.heap.size W W0) := UB.of_below hb0
 have hRl := h.lt
 unfold lay4 at hW0
 clear hread hb0 h
 go_enter_defers Tryz.func19,Tryz.ntmps19
 cases r with
 | stop o l =>
  go_wp2_with fail
  refine HRD.out.mono ?_
  rintro e w2 ⟨⟨rfl,h2⟩,hb2⟩
  have hO := HCO.out.ub hb2 (by omega) (by omega)
  have hE := HCE.out.ub hb2 (by omega) (by omega)
  have hA := HCA.out.ub hb2 (by omega) (by omega)
  have hM := HCM.out.ub hb2 (by omega) (by omega)
  have HB2 := Lib.hid (HB0.out.trans (hb2.mono (by omega)))
  clear hb2 HCO HCE HCA HCM HRD
  cases o with
  | need p =>
   go_wp2_with fail
   refine leaves_cons (f := 33) (args := #[.pointer (some ⟨W.heap.size + 2,0,none⟩),.pointer (some ⟨W.heap.size + 3,0,none⟩),.pointer (some ⟨W.heap.size + 1,0,none⟩)]) (by simp) (by simp [go_sem]) ?_
   refine (look_recovers.need (W.heap.size + 2) (W.heap.size + 3) (W.heap.size + 1) p [] _ _ _ (by omega) (hA.1 0 (by omega)) (hA.2 0) (hM.1 0 (by omega)) (hM.2 0)).mono ?_
   rintro e u' w3 ⟨rfl,rfl,rfl⟩
   have o3 := (hO.set (B := W.heap.size + 2) (i := 0) (v := .int .i64 (p : Nat)) (by omega)).set (B := W.heap.size + 3) (i := 0) (v := .bool true) (by omega)
   have e3 := ((hE.set (B := W.heap.size + 2) (i := 0) (v := .int .i64 (p : Nat)) (by omega)).set (B := W.heap.size + 3) (i := 0) (v := .bool true) (by omega)).1 0 (by omega)
   have m3 : ((w2.setCell ⟨W.heap.size + 2,0,none⟩ (.int .i64 (p : Nat))).setCell ⟨W.heap.size + 3,0,none⟩ (.bool true)).cell? ⟨W.heap.size + 3,0,none⟩ = some (.bool true) := World.cell?_setCell_same' _ _ _ (by rw [(hM.set (B := W.heap.size + 2) (i := 0) (v := .int .i64 (p : Nat)) (by omega)).1 0 (by omega)];rfl)
   have a3 : ((w2.setCell ⟨W.heap.size + 2,0,none⟩ (.int .i64 (p : Nat))).setCell ⟨W.heap.size + 3,0,none⟩ (.bool true)).cell? ⟨W.heap.size + 2,0,none⟩ = some (.int .i64 p) :=
    (World.cell?_setCell_other _ _ _ _ (by intro e;injection e with e;omega)).trans (World.cell?_setCell_same' _ _ _ (by rw [hA.1 0 (by omega)];rfl))
   obtain ⟨u,hu⟩ := h2
   have r3 := (hu.set (b := W.heap.size + 2) (i := 0) (v := .int .i64 (p : Nat)) (HF.out _ (by omega))).set (b := W.heap.size + 3) (i := 0) (v := .bool true) (HF.out _ (by omega))
   have b3 := (HB2.out.set (b := W.heap.size + 2) (i := 0) (v := .int .i64 (p : Nat)) (.inl (by omega))).set (b := W.heap.size + 3) (i := 0) (v := .bool true) (.inl (by omega))
   generalize (w2.setCell ⟨W.heap.size + 2,0,none⟩ (.int .i64 (p : Nat))).setCell ⟨W.heap.size + 3,0,none⟩ (.bool true) = w4 at *
   have g0 := o3.1 0 (by omega)
   have g1 := o3.1 1 (by omega)
   have g2 := o3.1 2 (by omega)
   have g3 := o3.1 3 (by omega)
   have g4 := o3.1 4 (by omega)
   have g5 := o3.1 5 (by omega)
   unfold cellsR at g0 g1 g2 g3 g4 g5
   simp [Leaves,settle,results,Tryz.results19,go_sem,g0,g1,g2,g3,g4,g5,e3,a3,m3]
   exact ⟨⟨rfl,⟨_,r3⟩⟩,b3⟩
  | err c =>
   go_wp2_with fail
   refine leaves_cons (f := 33) (args := #[.pointer (some ⟨W.heap.size + 2,0,none⟩),.pointer (some ⟨W.heap.size + 3,0,none⟩),.pointer (some ⟨W.heap.size + 1,0,none⟩)]) (by simp) (by simp [go_sem]) ?_
   refine (look_recovers.err (W.heap.size + 2) (W.heap.size + 3) (W.heap.size + 1) c [] _ _ (hE.1 0 (by omega)) (hE.2 0)).mono ?_
   rintro e u' w3 ⟨rfl,rfl,rfl⟩
   have o3 := hO.set (B := W.heap.size + 1) (i := 0) (v := .int .i64 (c : Nat)) (by omega)
   have a3 := (hA.set (B := W.heap.size + 1) (i := 0) (v := .int .i64 (c : Nat)) (by omega)).1 0 (by omega)
   have m3 := (hM.set (B := W.heap.size + 1) (i := 0) (v := .int .i64 (c : Nat)) (by omega)).1 0 (by omega)
   have e3 : (w2.setCell ⟨W.heap.size + 1,0,none⟩ (.int .i64 (c : Nat))).cell? ⟨W.heap.size + 1,0,none⟩ = some (.int .i64 c) := World.cell?_setCell_same' _ _ _ (by rw [hE.1 0 (by omega)];rfl)
   have r3 : RuAt R FA nf cf fed l.length (w2.setCell ⟨W.heap.size + 1,0,none⟩ (.int .i64 (c : Nat))) := RuAt.set h2 (HF.out _ (by omega))
   have b3 := HB2.out.set (b := W.heap.size + 1) (i := 0) (v := .int .i64 (c : Nat)) (.inl (by omega))
   generalize w2.setCell ⟨W.heap.size + 1,0,none⟩ (.int .i64 (c : Nat)) = w4 at *
   have g0 := o3.1 0 (by omega)
   have g1 := o3.1 1 (by omega)
   have g2 := o3.1 2 (by omega)
   have g3 := o3.1 3 (by omega)
   have g4 := o3.1 4 (by omega)
   have g5 := o3.1 5 (by omega)
   unfold cellsR at g0 g1 g2 g3 g4 g5
   simp [Leaves,settle,results,Tryz.results19,go_sem,g0,g1,g2,g3,g4,g5,e3,a3,m3]
   exact ⟨⟨rfl,r3⟩,b3⟩
 | val t l =>
  go_wp2_with fail
  refine HRD.out.mono ?_
  rintro e w2 ⟨⟨v,rfl,hv,h2⟩,hb2⟩
  obtain ⟨NA,nn,nc,BA,bn,bc,rfl,hv2,hv3,hv4,hv5,hv6,hv7,hv8,hv9,hv10,hv11⟩ := hv
  have hO := HCO.out.ub hb2 (by omega) (by omega)
  have hE := HCE.out.ub hb2 (by omega) (by omega)
  have hA := HCA.out.ub hb2 (by omega) (by omega)
  have hM := HCM.out.ub hb2 (by omega) (by omega)
  have HB2 := Lib.hid (HB0.out.trans (hb2.mono (by omega)))
  clear hb2 HCO HCE HCA HCM HRD
  obtain ⟨w3,hw3⟩ : ∃ w3,putTo w2 W.heap.size (cellsO t NA nn nc BA bn bc) 6 = w3 := ⟨_,rfl⟩
  have hO3 : CellsAt w3 W.heap.size 6 (cellsO t NA nn nc BA bn bc) := by rw [<- hw3];exact putTo_all hO
  have hE3 : CellsAt w3 (W.heap.size + 1) 1 (fun _ => .int .i64 0) := by rw [<- hw3];exact hE.put (by omega)
  have hA3 : CellsAt w3 (W.heap.size + 2) 1 (fun _ => .int .i64 0) := by rw [<- hw3];exact hA.put (by omega)
  have hM3 : CellsAt w3 (W.heap.size + 3) 1 (fun _ => .bool false) := by rw [<- hw3];exact hM.put (by omega)
  have h3 : RuAt R FA nf cf fed l.length w3 := by rw [<- hw3];exact h2.putTo (HF.out _ (Nat.le_refl _)) 6
  have HB3 : Hid (UB R W.heap.size W w3) := by rw [Hid,<- hw3];exact HB2.out.putTo (Nat.le_refl _) 6
  have hr3 : ∀ b i,W0.heap.size <= b -> w3.cell? ⟨b,i,none⟩ = w2.cell? ⟨b,i,none⟩ := fun b i hb => by rw [<- hw3];exact putTo_other (by omega) 6
  have hs3 : w2.heap.size = w3.heap.size := by rw [<- hw3,putTo_size]
  have z0 := hO.1 0 (by omega)
  have y0 := hO.2 0
  have z1 := hO.1 1 (by omega)
  have y1 := hO.2 1
  have z2 := hO.1 2 (by omega)
  have y2 := hO.2 2
  have z3 := hO.1 3 (by omega)
  have y3 := hO.2 3
  have z4 := hO.1 4 (by omega)
  have y4 := hO.2 4
  have z5 := hO.1 5 (by omega)
  have y5 := hO.2 5
  unfold cellsR at z0 z1 z2 z3 z4 z5
  have e0 := hE3.1 0 (by omega)
  have e1 := hE3.2 0
  have a0 := hA3.1 0 (by omega)
  have a1 := hA3.2 0
  have m0 := hM3.1 0 (by omega)
  have m1 := hM3.2 0
  have hw4 := hw3
  unfold putTo putTo putTo putTo putTo putTo putTo cellsO at hw4
  simp only at hw4
  clear hw3
  go_wp2_with fail
  obtain ⟨w4,hw5⟩ : ∃ w4,(((w3.setCell ⟨W.heap.size + 1,0,none⟩ (.int .i64 0)).setCell ⟨W.heap.size + 1 + 1,0,none⟩ (.int .i64 0)).setCell ⟨W.heap.size + 1 + 1 + 1,0,none⟩ (.bool false)) = w4 := ⟨_,rfl⟩
  have o4 : CellsAt w4 W.heap.size 6 (cellsO t NA nn nc BA bn bc) := by rw [<- hw5];exact ((hO3.set (by omega)).set (by omega)).set (by omega)
  have e4 : w4.cell? ⟨W.heap.size + 1,0,none⟩ = some (.int .i64 0) := by
   rw [<- hw5,World.cell?_setCell_other _ _ _ _ (by intro e;injection e with e;omega),World.cell?_setCell_other _ _ _ _ (by intro e;injection e with e;omega)]
   exact World.cell?_setCell_same' _ _ _ (by rw [e0];rfl)
  have a4 : w4.cell? ⟨W.heap.size + 1 + 1,0,none⟩ = some (.int .i64 0) := by
   rw [<- hw5,World.cell?_setCell_other _ _ _ _ (by intro e;injection e with e;omega)]
   exact World.cell?_setCell_same' _ _ _ (by rw [World.cell?_setCell_other _ _ _ _ (by intro e;injection e with e;omega)];exact (congrArg Option.isSome a0).trans rfl)
  have m4 : w4.cell? ⟨W.heap.size + 1 + 1 + 1,0,none⟩ = some (.bool false) := by
   rw [<- hw5]
   exact World.cell?_setCell_same' _ _ _ (by rw [World.cell?_setCell_other _ _ _ _ (by intro e;injection e with e;omega),World.cell?_setCell_other _ _ _ _ (by intro e;injection e with e;omega)];exact (congrArg Option.isSome m0).trans rfl)
  have r4 : RuAt R FA nf cf fed l.length w4 := by
   rw [<- hw5]
   exact ((h3.set (HF.out _ (by omega))).set (HF.out _ (by omega))).set (HF.out _ (by omega))
  have b4 : UB R W.heap.size W w4 := by
   rw [<- hw5]
   exact ((HB3.out.set (.inl (by omega))).set (.inl (by omega))).set (.inl (by omega))
  have hr4 : ∀ b i,W0.heap.size <= b -> w4.cell? ⟨b,i,none⟩ = w2.cell? ⟨b,i,none⟩ := fun b i hb => by
   rw [<- hw5,World.cell?_setCell_other _ _ _ _ (by intro e;injection e with e;omega),World.cell?_setCell_other _ _ _ _ (by intro e;injection e with e;omega),World.cell?_setCell_other _ _ _ _ (by intro e;injection e with e;omega)]
   exact hr3 b i hb
  have hs4 : w2.heap.size <= w4.heap.size := by rw [hs3,<- hw5];simp [World.setCell]
  have hv12 := RowAt.far hv8 hv10 hs4 hr4
  have hv13 := RowAt.far hv9 hv11 hs4 hr4
  rw [hw5]
  clear hw5 hw4 z0 z1 z2 z3 z4 z5 y0 y1 y2 y3 y4 y5
  refine leaves_cons (f := 33) (args := #[.pointer (some ⟨W.heap.size + 1 + 1,0,none⟩),.pointer (some ⟨W.heap.size + 1 + 1 + 1,0,none⟩),.pointer (some ⟨W.heap.size + 1,0,none⟩)]) (by simp) (by simp [go_sem]) ?_
  refine (look_recovers.idle _ _ _ _).mono ?_
  rintro e u' w5 ⟨rfl,rfl,rfl⟩
  have g0 := o4.1 0 (by omega)
  have g1 := o4.1 1 (by omega)
  have g2 := o4.1 2 (by omega)
  have g3 := o4.1 3 (by omega)
  have g4 := o4.1 4 (by omega)
  have g5 := o4.1 5 (by omega)
  unfold cellsO at g0 g1 g2 g3 g4 g5
  simp [Leaves,settle,results,Tryz.results19,go_sem,g0,g1,g2,g3,g4,g5,e4,a4,m4]
  exact ⟨⟨_,rfl,⟨NA,nn,nc,BA,bn,bc,rfl,hv2,hv3,hv4,hv5,hv6,hv7,hv12,hv13,fun ad e => by have := hv10 ad e;omega,fun ad e => by have := hv11 ad e;omega⟩,r4⟩,b4⟩
end
section
open Go.RowKit Go.Maps
attribute [local go_sem] Oper.semAt_some
theorem whichever_strong {F : Fence} {n : Nat} {P : Program} {ops : Array Oper} {Q : Exit -> Act -> World -> Prop} {md : Region.Mode} {S S' : World -> Prop} {late : List Nat} (hS : ∀ w,S' w -> S w) :
  ∀ (f : Nat) (l : Array Bool) (a : Act) (w : World),Whichever F n P ops Q md S' late f l a w -> Whichever F n P ops Q md S late f l a w
 | 0,_,_,_,h => h
 | f + 1,l,a,w,h => ⟨h.1,fun i hi => wpOpIn_mono (fun a' w' h' => ⟨fun hn => hS _ (h'.1 hn),whichever_strong hS f _ a' w' h'.2⟩) (h.2 i hi)⟩
variable {R : Nat} {FA : Option Addr} {nf cf : Nat} {fed ats : List Nat}
theorem enterP_top {fed ats l : List Nat} {line : Nat} {t : Nat × Nat × Nat} (h : enterP fed line ats = .val t l) : t.2.2 < 1024 := by
 obtain ⟨k,l1,_,h2⟩ := bind_val h
 obtain ⟨tp,l2,_,h3⟩ := bind_val h2
 split at h3
 ·rename_i n hn
  cases h3
  unfold nodeP at hn
  split at hn
  ·rename_i hc
   cases hn
   exact hc.2.2.2.2
  ·cases hn
 ·cases h3
theorem walkL_top {fed : List Nat} : ∀ (names : List (List UInt8)) (line : Nat) (n : Nat × Nat × Nat) (ats l : List Nat) (t : Nat × Nat × Nat × Nat),n.2.2 < 1024 -> walkL fed names line n ats = .val t l -> t.2.2.2 < 1024
 | [],line,n,ats,l,t,hn,h => by cases h;exact hn
 | s :: names,line,n,ats,l,t,hn,h => by
  unfold walkL at h
  split at h
  ·obtain ⟨line2,l1,_,h2⟩ := bind_val h
   obtain ⟨n2,l2,h3,h4⟩ := bind_val h2
   exact walkL_top names line2 n2 l2 l t (enterP_top h3) h4
  ·cases h
theorem walkedP_top {fed : List Nat} {names : List (List UInt8)} {t : Nat × Nat × Nat × Nat} {l : List Nat} (h : walkedP fed names = .val t l) : t.2.2.2 < 1024 := by
 obtain ⟨x,l1,_,h2⟩ := bind_val h
 obtain ⟨line,l2,_,h3⟩ := bind_val h2
 obtain ⟨n,l3,h4,h5⟩ := bind_val h3
 exact walkL_top _ _ _ _ _ _ (enterP_top h4) h5
def actFn : Nat -> FuncId
 | 1 => 34
 | 2 => 35
 | _ => 36
theorem kindF_eq : ∀ k : Nat,kindF k = .func (.func (actFn k)) #[] #[]
 | 0 => rfl
 | 1 => rfl
 | 2 => rfl
 | _ + 3 => rfl
theorem actFn_enters (q : Nat) (args : Array Value) (w : World) : (callFunc (actFn q) args).run Tryz.prog w = .ok (.enter (actFn q) args) w := by
 match q with
 | 0 => exact enters_of Tryz.func36 (by kernel_rfl) rfl args w
 | 1 => exact enters_of Tryz.func34 (by kernel_rfl) rfl args w
 | 2 => exact enters_of Tryz.func35 (by kernel_rfl) rfl args w
 | _ + 3 => exact enters_of Tryz.func36 (by kernel_rfl) rfl args w
theorem lact_any (q : Nat) (hq : 1 <= q ∧ q <= 3) (nd : Nat × Nat × Nat) (p d : ByteArray) (a n : Int) (A : Option Addr) (m c : Nat) (W : World) (htop : nd.2.2 <= 100000) (han : q = 3 -> 0 <= a ∧ a < 9223372036854775808 ∧ 0 <= n ∧ n < 9223372036854775808) (hl : ats.length <= nf) (hnf : nf <= 20000) (hx64 : ∀ x ∈ fed,x < 18446744073709551616) (h : RuAt R FA nf cf fed ats.length W) :
  Calls Tryz.prog (actFn q) #[.pointer (some ⟨R,0,none⟩),encLN nd,opV q p d a n A m c] W (ReadsR R FA nf cf fed W (askE q a.toNat n.toNat nd fed ats)) := by
 obtain ⟨kd,lk,top⟩ := nd
 have h3 : q = 1 ∨ q = 2 ∨ q = 3 := by omega
 rcases h3 with rfl | rfl | rfl
 ·by_cases hk : kd = 1
  ·subst hk;exact lstat_file lk top _ p d a n A m c W htop hl hnf hx64 h
  ·exact lstat_dir kd lk top hk _ p d a n A m c W htop hl hnf hx64 h
 ·by_cases hk : kd = 2
  ·subst hk;exact llist_dir lk top _ p d a n A m c W htop hl hnf hx64 h
  ·exact llist_not kd lk top hk _ p d a n A m c W h
 ·obtain ⟨h1,h2,h3,h4⟩ := han rfl
  have e1 : (a.toNat : Int) = a := by omega
  have e2 : (n.toNat : Int) = n := by omega
  by_cases hk : kd = 1
  ·subst hk
   have := lread_file lk top ((3 : Nat) : Int) p d a.toNat n.toNat A m c W htop (by omega) (by omega) hl hnf hx64 h
   rw [e1,e2] at this
   exact this
  ·have := lread_not kd lk top hk ((3 : Nat) : Int) p d a.toNat n.toNat A m c W h
   rw [e1,e2] at this
   exact this
def cellsOp (k : Int) (p d : ByteArray) (a n : Int) (A : Option Addr) (m c : Nat) : Nat -> Value
 | 0 => .int .i64 k
 | 1 => .string p
 | 2 => .string d
 | 3 => .int .i64 a
 | 4 => .int .i64 n
 | _ => .slice A m c
theorem bind_stop_only {α β : Type} {r : Res α} {f : α -> β} {o : Out} {l : List Nat} (h : (r.bind fun t l => .val (f t) l) = .stop o l) : r = .stop o l := by
 cases r with
 | val a l => cases h
 | stop o l => cases h;rfl
def OpRd (Ob Rp R : Nat) (k : Int) (p d : ByteArray) (a n : Int) (A : Option Addr) (m c : Nat) (w : World) : Prop :=
 w.cell? ⟨Ob,0,none⟩ = some (.int .i64 k) ∧ w.cell? ⟨Ob,1,none⟩ = some (.string p) ∧ w.cell? ⟨Ob,2,none⟩ = some (.string d) ∧ w.cell? ⟨Ob,3,none⟩ = some (.int .i64 a) ∧ w.cell? ⟨Ob,4,none⟩ = some (.int .i64 n) ∧ w.cell? ⟨Ob,5,none⟩ = some (.slice A m c) ∧ w.cell? ⟨Rp,0,none⟩ = some (.pointer (some ⟨R,0,none⟩))
theorem OpRd.ub {Ob Rp R B : Nat} {k : Int} {p d : ByteArray} {a n : Int} {A : Option Addr} {m c : Nat} {w w' : World} (h : OpRd Ob Rp R k p d a n A m c w) (hb : UB R B w w') (h1 : Ob < B) (h2 : Rp < B) (h3 : Ob ≠ R) (h4 : Rp ≠ R) : OpRd Ob Rp R k p d a n A m c w' :=
 ⟨(hb.cell h1 h3).trans h.1,(hb.cell h1 h3).trans h.2.1,(hb.cell h1 h3).trans h.2.2.1,(hb.cell h1 h3).trans h.2.2.2.1,(hb.cell h1 h3).trans h.2.2.2.2.1,(hb.cell h1 h3).trans h.2.2.2.2.2.1,(hb.cell h2 h4).trans h.2.2.2.2.2.2⟩
set_option maxRecDepth 100000 in
set_option maxHeartbeats 8000000 in
theorem lrun1_any (Ob Rp q : Nat) (hq : 1 <= q ∧ q <= 3) (p d : ByteArray) (a n : Int) (A : Option Addr) (m c : Nat) (W : World) (hs : p.size < 4294967281) (hbg : begunN (bytesOf p) nf = 0) (han : q = 3 -> 0 <= a ∧ a < 9223372036854775808 ∧ 0 <= n ∧ n < 9223372036854775808) (hnf : nf <= 20000) (hx64 : ∀ x ∈ fed,x < 18446744073709551616)
  (hO : CellsAt W Ob 6 (cellsOp q p d a n A m c)) (hP : W.cell? ⟨Rp,0,none⟩ = some (.pointer (some ⟨R,0,none⟩))) (hOR : Ob ≠ R) (hPR : Rp ≠ R) (h : RuAt R FA nf cf fed 0 W) :
  Calls Tryz.prog 20 #[.pointer (some ⟨Ob,0,none⟩),.pointer (some ⟨Rp,0,none⟩)] W (ReadsR R FA nf cf fed W (lookF (readP (bytesOf p)).2 q a.toNat n.toNat fed [])) := by
 obtain ⟨W0,hW0⟩ : ∃ W0,W.alloc (.cells #[.int .i64 0,.int .i64 0,.int .i64 0,.int .i64 0,.slice none 0 0,.slice none 0 0] 33) = W0 := ⟨_,rfl⟩
 have hb0 : Below W.heap.size W W0 := by rw [<- hW0];exact (Below.refl _ _).alloc (Nat.le_refl _) _
 have hs0 : W0.heap.size = W.heap.size + 1 := by rw [<- hW0];simp
 have HZ0 : Hid (CellsAt W0 W.heap.size 6 (cellsR 0 0 0 0)) := by
  rw [Hid,<- hW0]
  exact cellsAt_new _ _ _ _ _ fun i hi => match i,hi with | 0,_ => rfl | 1,_ => rfl | 2,_ => rfl | 3,_ => rfl | 4,_ => rfl | 5,_ => rfl
 have hOl : Ob < W.heap.size := World.block_lt_of_cell? W ⟨Ob,0,none⟩ (hO.1 0 (by omega))
 have hPl : Rp < W.heap.size := World.block_lt_of_cell? W ⟨Rp,0,none⟩ hP
 have hSW : OpRd Ob Rp R q p d a n A m c W := ⟨hO.1 0 (by omega),hO.1 1 (by omega),hO.1 2 (by omega),hO.1 3 (by omega),hO.1 4 (by omega),hO.1 5 (by omega),hP⟩
 have hS0 : OpRd Ob Rp R q p d a n A m c W0.drew := hSW.ub (UB.of_below hb0.drew) hOl hPl hOR hPR
 have HR0 : Hid (RuAt R FA nf cf fed 0 W0.drew) := h.below hb0.drew
 have HU0 : Hid (UB R W.heap.size W W0.drew) := UB.of_below hb0.drew
 have HOF := Lib.hid (fun b (hb : W.heap.size <= b) => h.off hb)
 have HX := Lib.hid hx64
 have HFL := Lib.hid h.fedl
 have hRl := h.lt
 have HW0 := Lib.hid hW0
 clear hO hP hSW hb0 hW0 hx64 h
 have hmx : Tryz.prog.follows .mixedOrders = true := by kernel_rfl
 go_enter Tryz.func20,Tryz.ntmps20
 go_wp2_with fail
 rw [HW0.out]
 refine (wpIn_wide (n := 10)).1 ?_
 refine whichever_region (OpRd Ob Rp R q p d a n A m c) [11] hmx ?_
 refine whichever_take 1 (.pointer (some ⟨Ob,0,none⟩)) [11] rfl (by kernel_rfl) (fun _ _ _ h => h) hS0 (by rfl) (fun w hw => ?_) ?_
 ·obtain ⟨hw0,hw1,hw2,hw3,hw4,hw5,hw6⟩ := hw
  constructor <;> go_simp
 refine whichever_take 2 (.int .i64 q) [11] rfl (by kernel_rfl) (fun _ _ _ h => h) hS0 (by rfl) (fun w hw => ?_) ?_
 ·obtain ⟨hw0,hw1,hw2,hw3,hw4,hw5,hw6⟩ := hw
  constructor <;> go_simp
 refine whichever_take 4 (.pointer (some ⟨R,0,none⟩)) [11] rfl (by kernel_rfl) (fun _ _ _ h => h) hS0 (by rfl) (fun w hw => ?_) ?_
 ·obtain ⟨hw0,hw1,hw2,hw3,hw4,hw5,hw6⟩ := hw
  constructor <;> go_simp
 refine whichever_take 5 (.pointer (some ⟨R,0,none⟩)) [11] rfl (by kernel_rfl) (fun _ _ _ h => h) hS0 (by rfl) (fun w hw => ?_) ?_
 ·obtain ⟨hw0,hw1,hw2,hw3,hw4,hw5,hw6⟩ := hw
  constructor <;> go_simp
 refine whichever_take 6 (.pointer (some ⟨Ob,1,none⟩)) [11] rfl (by kernel_rfl) (fun _ _ _ h => h) hS0 (by rfl) (fun w hw => ?_) ?_
 ·obtain ⟨hw0,hw1,hw2,hw3,hw4,hw5,hw6⟩ := hw
  constructor <;> go_simp
 refine whichever_take 7 (.string p) [11] rfl (by kernel_rfl) (fun _ _ _ h => h) hS0 (by rfl) (fun w hw => ?_) ?_
 ·obtain ⟨hw0,hw1,hw2,hw3,hw4,hw5,hw6⟩ := hw
  constructor <;> go_simp
 refine whichever_take 9 (.agg #[.int .i64 q,.string p,.string d,.int .i64 a,.int .i64 n,.slice A m c]) [11] rfl (by kernel_rfl) (fun _ _ _ h => h) hS0 (by rfl) (fun w hw => ?_) ?_
 ·obtain ⟨hw0,hw1,hw2,hw3,hw4,hw5,hw6⟩ := hw
  constructor <;> go_simp
 refine whichever_next 0 rfl (by kernel_rfl) (by rfl) ?_
 go_simp
 refine ⟨trivial,callsIn_wide.2 ((kinds_any W0.drew).mono ?_)⟩
 rintro e w1 ⟨rfl,hown,hb1⟩
 have hS1 := hS0.ub (UB.of_below hb1) (by show Ob < W0.heap.size;omega) (by show Rp < W0.heap.size;omega) hOR hPR
 refine ⟨hS1,?_⟩
 refine whichever_strong (S' := fun w => OpRd Ob Rp R q p d a n A m c w ∧ w.ownsMap Tryz.prog 25 heldV W0.drew.heap.size 3 kindsD) (fun w h => h.1) _ _ _ _ ?_
 refine whichever_take 3 (.func (.func (actFn q)) #[] #[]) [11] rfl (by kernel_rfl) (fun _ _ _ h => h) ⟨hS1,hown⟩ (by rfl) (fun w hw => ?_) ?_
 ·have hk := kinds_at hw.2 q hq
  rw [kindF_eq,show W0.drew.heap.size = W.heap.size + 1 from hs0] at hk
  constructor <;> go_simp
 refine whichever_next 8 rfl (by kernel_rfl) (by rfl) ?_
 go_simp
 have HR1 : Hid (RuAt R FA nf cf fed 0 w1) := HR0.out.below hb1
 have HU1 : Hid (UB R W.heap.size W w1) := HU0.out.trans ((UB.of_below hb1).mono HU0.out.size)
 have hs1 : W.heap.size + 1 <= w1.heap.size := by have := hb1.size;have e : W0.drew.heap.size = W.heap.size + 1 := hs0;omega
 have HZ1 : Hid (CellsAt w1 W.heap.size 6 (cellsR 0 0 0 0)) := HZ0.out.below (m := W0.heap.size) ((Below.refl _ W0).drew.trans hb1) (by omega)
 refine ⟨trivial,callsIn_wide.2 (reads_case (lwalked_any p w1 hs hbg (by unfold maxLen;omega) HX.out HR1.out) ?_ ?_)⟩
 ·intro o l w2 hr hb hu
  simp only
  have hw := bind_stop_only hr.out
  exact ⟨rfl,endsR_stop (by rw [lookF];exact (congrArg (fun r : Res _ => r.bind fun t ats => askE q a.toNat n.toNat t.2 fed ats) hw)) hb.out (HU1.out.trans (hu.out.mono HU1.out.size))⟩
 ·intro nd l w2 hr hb hu
  simp only
  obtain ⟨t,l2,hw,e⟩ := bind_val hr.out
  have hnd : t.2 = nd := by injection e
  have hll : l2 = l := by injection e
  subst hnd hll
  have hS2 := hS1.ub hu.out (by omega) (by omega) hOR hPR
  have hown2 : w2.ownsMap Tryz.prog 25 heldV W0.drew.heap.size 3 kindsD := by
   obtain ⟨es,clock,hb',r⟩ := hown
   have hlt := (Array.getElem?_eq_some_iff.1 hb').1
   have e : W0.drew.heap.size = W.heap.size + 1 := hs0
   exact ⟨es,clock,(hu.out.keep _ hlt (by omega)).trans hb',r⟩
  rw [show W0.drew.heap.size = W.heap.size + 1 from hs0] at hown2
  refine ⟨⟨hS2,hown2⟩,?_⟩
  have hcf := actFn_enters q
  refine whichever_next 10 rfl (by kernel_rfl) (by rfl) ?_
  go_simp
  have hll : l2.length <= nf := by
   rw [<- HFL.out]
   exact (Good.walkF (readP (bytesOf p)).2).len fed [] t l2 (by simp) hw
  have htop := walkedP_top hw
  have HU2 := Lib.hid (HU1.out.trans (hu.out.mono HU1.out.size))
  have hs2 : W.heap.size + 1 <= w2.heap.size := Nat.le_trans hs1 hu.out.size
  have HZ2 := Lib.hid (HZ1.out.ub hu.out (by omega) (by omega))
  have HLK : Hid (lookF (readP (bytesOf p)).2 q a.toNat n.toNat fed [] = askE q a.toNat n.toNat t.2 fed l2) := by
   rw [Hid,lookF];exact (congrArg (fun r : Res _ => r.bind fun t ats => askE q a.toNat n.toNat t.2 fed ats) hw)
  refine ⟨trivial,callsIn_wide.2 ((lact_any q hq t.2 p d a n A m c w2 (by omega) han hll hnf HX.out hb.out).mono ?_)⟩
  rintro e w3 ⟨hres,hu3⟩
  have HU3 := Lib.hid (HU2.out.trans (hu3.mono HU2.out.size))
  cases hask : askE q a.toNat n.toNat t.2 fed l2 with
  | stop o l3 =>
   rw [hask] at hres
   obtain ⟨rfl,hb3⟩ := hres
   simp only
   exact ⟨rfl,endsR_stop (HLK.out.trans hask) hb3 HU3.out⟩
  | val r l3 =>
   rw [hask] at hres
   obtain ⟨v,rfl,hv,hb3⟩ := hres
   obtain ⟨NA,nn,nc,BA,bn,bc,rfl,hv2,hv3,hv4,hv5,hv6,hv7,hv8,hv9,hv10,hv11⟩ := hv
   simp only
   have hS3 := hS2.ub hu3 (by omega) (by omega) hOR hPR
   have hown3 : w3.ownsMap Tryz.prog 25 heldV (W.heap.size + 1) 3 kindsD := by
    obtain ⟨es,clock,hb',r⟩ := hown2
    have hlt := (Array.getElem?_eq_some_iff.1 hb').1
    exact ⟨es,clock,(hu3.keep _ hlt (by omega)).trans hb',r⟩
   have HZ3 := Lib.hid (HZ2.out.ub hu3 (by omega) (by omega))
   have HLK2 := Lib.hid (HLK.out.trans hask)
   refine ⟨⟨hS3,hown3⟩,?_⟩
   have z0 := HZ3.out.1 0 (by omega)
   have y0 := HZ3.out.2 0
   have z1 := HZ3.out.1 1 (by omega)
   have y1 := HZ3.out.2 1
   have z2 := HZ3.out.1 2 (by omega)
   have y2 := HZ3.out.2 2
   have z3 := HZ3.out.1 3 (by omega)
   have y3 := HZ3.out.2 3
   have z4 := HZ3.out.1 4 (by omega)
   have y4 := HZ3.out.2 4
   have z5 := HZ3.out.1 5 (by omega)
   have y5 := HZ3.out.2 5
   unfold cellsR at z0 z1 z2 z3 z4 z5
   clear hS3 hown3 hS2 hown2 hS1 hown hcf
   refine whichever_next 11 rfl (by kernel_rfl) (by rfl) ?_
   go_simp
   refine whichever_end (by kernel_rfl) ?_
   rename_i K hK
   refine hK _ _ ?_
   go_wp2_with fail
   have hoff : OffU R FA nf W.heap.size := HOF.out _ (Nat.le_refl _)
   obtain ⟨w4,hw4⟩ : ∃ w4,putTo w3 W.heap.size (cellsO r NA nn nc BA bn bc) 6 = w4 := ⟨_,rfl⟩
   have HC4 : CellsAt w4 W.heap.size 6 (cellsO r NA nn nc BA bn bc) := by rw [<- hw4];exact putTo_all HZ3.out
   have HR4 : RuAt R FA nf cf fed l3.length w4 := by rw [<- hw4];exact RuAt.putTo hb3 hoff 6
   have HU4 : UB R W.heap.size W w4 := by rw [<- hw4];exact HU3.out.putTo (Nat.le_refl _) 6
   have hs4 : w3.heap.size <= w4.heap.size := by rw [<- hw4,putTo_size];exact Nat.le_refl _
   have hr4 : ∀ b i,w2.heap.size <= b -> w4.cell? ⟨b,i,none⟩ = w3.cell? ⟨b,i,none⟩ := fun b i hb => by rw [<- hw4];exact putTo_other (by omega) 6
   have hv12 := RowAt.far hv8 hv10 hs4 hr4
   have hv13 := RowAt.far hv9 hv11 hs4 hr4
   have hw5 := hw4
   unfold putTo putTo putTo putTo putTo putTo putTo cellsO at hw5
   simp only at hw5
   rw [hw5]
   clear hw5 hw4
   have g0 := HC4.1 0 (by omega)
   have g1 := HC4.1 1 (by omega)
   have g2 := HC4.1 2 (by omega)
   have g3 := HC4.1 3 (by omega)
   have g4 := HC4.1 4 (by omega)
   have g5 := HC4.1 5 (by omega)
   unfold cellsO at g0 g1 g2 g3 g4 g5
   refine bodyPost_ret (v := .agg #[.int .i64 r.no,.int .i64 r.kind,.int .i64 r.links,.int .i64 r.n,.slice NA nn nc,.slice BA bn bc]) (by simp [results,Tryz.results20,go_sem,g0,g1,g2,g3,g4,g5]) rfl ?_
   exact endsR_val HLK2.out ⟨NA,nn,nc,BA,bn,bc,rfl,hv2,hv3,hv4,hv5,hv6,hv7,hv12,hv13,fun ad e => by have := hv10 ad e;omega,fun ad e => by have := hv11 ad e;omega⟩ HR4 HU4
end
end Go.Proofs.YtdpooagnbmpinaaGreatDoor
