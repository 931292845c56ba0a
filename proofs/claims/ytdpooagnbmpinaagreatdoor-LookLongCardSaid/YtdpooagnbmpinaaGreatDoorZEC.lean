import Derived.Test.YtdpooagnbmpinaaGreatDoorZE7
import Derived.Test.YtdpooagnbmpinaaGreatDoorZM4
import Derived.Test.YtdpooagnbmpinaaGreatDoorZGR
import Derived.Laws.EntriesVeiled
import Derived.Test.YtdpooagnbmpinaaGreatDoorZW1
import Derived.Deep.AppendLies
namespace Go.Proofs.YtdpooagnbmpinaaGreatDoor
section
open Go.RowKit
def ResAt (base : Nat) (W : World) (r : ResP) (v : Value) : Prop :=
 ∃ NA nn nc BA bn bc,v = .agg #[.int .i64 r.no,.int .i64 r.kind,.int .i64 r.links,.int .i64 r.n,.slice NA nn nc,.slice BA bn bc] ∧ r.names.length = nn ∧ r.bytes.length = bn ∧ nn <= nc ∧ bn <= bc ∧ bc <= maxLen ∧ nc <= maxLen ∧
  RowAt W NA (r.names.map encT) ∧ RowAt W BA (r.bytes.map encB) ∧ (∀ ad,NA = some ad -> base <= ad.block) ∧ (∀ ad,BA = some ad -> base <= ad.block)
theorem ResAt.below {base n : Nat} {W W' : World} {r : ResP} {v : Value} (h : ResAt base W r v) (hb : Below W.heap.size W W') (hn : n <= base) : ResAt n W' r v := by
 obtain ⟨NA,nn,nc,BA,bn,bc,h1,h2,h3,h4,h5,h6,h7,h8,h9,h10,h11⟩ := h
 exact ⟨NA,nn,nc,BA,bn,bc,h1,h2,h3,h4,h5,h6,h7,h8.below hb,h9.below hb,fun ad e => Nat.le_trans hn (h10 ad e),fun ad e => Nat.le_trans hn (h11 ad e)⟩
def ReadsR (R : Nat) (FA : Option Addr) (nf cf : Nat) (fed : List Nat) (W : World) (r : Res ResP) (e : Ending) (W' : World) : Prop :=
 (match r with
  | .val a l => ∃ v,e = .returned v ∧ ResAt W.heap.size W' a v ∧ RuAt R FA nf cf fed l.length W'
  | .stop o l => e = .panicked [outU o] ∧ BehindU (α := Nat) R FA nf cf fed (.stop o l) W') ∧ UB R W.heap.size W W'
def opV (k : Int) (p d : ByteArray) (a n : Int) (A : Option Addr) (m c : Nat) : Value := .agg #[.int .i64 k,.string p,.string d,.int .i64 a,.int .i64 n,.slice A m c]
variable {R : Nat} {FA : Option Addr} {nf cf : Nat} {fed ats : List Nat}
theorem endsR_stop {W W' : World} {r : Res ResP} {o : Out} {l : List Nat} (hr : r = .stop o l) (h1 : BehindU (α := Nat) R FA nf cf fed (.stop o l) W') (h2 : UB R W.heap.size W W') : ReadsR R FA nf cf fed W r (.panicked [outU o]) W' := by
 subst hr
 exact ⟨⟨rfl,h1⟩,h2⟩
theorem endsR_val {W W' : World} {r : Res ResP} {a : ResP} {l : List Nat} {v : Value} (hr : r = .val a l) (hv : ResAt W.heap.size W' a v) (h1 : RuAt R FA nf cf fed l.length W') (h2 : UB R W.heap.size W W') : ReadsR R FA nf cf fed W r (.returned v) W' := by
 subst hr
 exact ⟨⟨v,rfl,hv,h1⟩,h2⟩
theorem resAt_plain (base : Nat) (W : World) (k l n : Nat) : ResAt base W ⟨0,k,l,n,[],[]⟩ (.agg #[.int .i64 (0 : Nat),.int .i64 k,.int .i64 l,.int .i64 n,.slice none 0 0,.slice none 0 0]) :=
 ⟨none,0,0,none,0,0,rfl,rfl,rfl,Nat.le_refl _,Nat.le_refl _,(by simp [maxLen]),(by simp [maxLen]),RowAt.nil,RowAt.nil,(fun _ e => by cases e),(fun _ e => by cases e)⟩
def cellsR (a b c d : Int) : Nat -> Value
 | 0 => .int .i64 a
 | 1 => .int .i64 b
 | 2 => .int .i64 c
 | 3 => .int .i64 d
 | _ => .slice none 0 0
theorem cellsR_n {W : World} {X : Nat} {a b c d x : Int} (h : CellsAt W X 6 (cellsR a b c d)) : CellsAt (W.setCell ⟨X,3,none⟩ (.int .i64 x)) X 6 (cellsR a b c x) :=
 cells_congr (h.upd (i := 3) (v := .int .i64 x) (by omega)) fun i hi => match i,hi with | 0,_ => rfl | 1,_ => rfl | 2,_ => rfl | 3,_ => rfl | 4,_ => rfl | 5,_ => rfl
def statW (W : World) (k l t : Nat) (c1 : Array Value) : World :=
 lay4 W #[.int .i64 k,.int .i64 l,.int .i64 t] c1 #[.int .i64 0,.int .i64 0,.int .i64 0,.int .i64 0,.slice none 0 0,.slice none 0 0] #[.int .i64 0,.int .i64 k,.int .i64 l,.int .i64 0,.slice none 0 0,.slice none 0 0] 46 28 33 33
theorem statW_two (W : World) (k l t : Nat) (c1 : Array Value) : CellsAt (statW W k l t c1) (W.heap.size + 1 + 1) 6 (cellsR 0 0 0 0) :=
 ⟨fun i hi => match i,hi with | 0,_ => lay4_2 _ _ _ _ _ _ _ _ _ 0 _ rfl | 1,_ => lay4_2 _ _ _ _ _ _ _ _ _ 1 _ rfl | 2,_ => lay4_2 _ _ _ _ _ _ _ _ _ 2 _ rfl | 3,_ => lay4_2 _ _ _ _ _ _ _ _ _ 3 _ rfl | 4,_ => lay4_2 _ _ _ _ _ _ _ _ _ 4 _ rfl | 5,_ => lay4_2 _ _ _ _ _ _ _ _ _ 5 _ rfl,
  fun i => lay4_frozen _ _ _ _ _ _ _ _ _ _ i (by omega)⟩
theorem statW_three (W : World) (k l t : Nat) (c1 : Array Value) : CellsAt (statW W k l t c1) (W.heap.size + 1 + 1 + 1) 6 (cellsR 0 k l 0) :=
 ⟨fun i hi => match i,hi with | 0,_ => lay4_3 _ _ _ _ _ _ _ _ _ 0 _ rfl | 1,_ => lay4_3 _ _ _ _ _ _ _ _ _ 1 _ rfl | 2,_ => lay4_3 _ _ _ _ _ _ _ _ _ 2 _ rfl | 3,_ => lay4_3 _ _ _ _ _ _ _ _ _ 3 _ rfl | 4,_ => lay4_3 _ _ _ _ _ _ _ _ _ 4 _ rfl | 5,_ => lay4_3 _ _ _ _ _ _ _ _ _ 5 _ rfl,
  fun i => lay4_frozen _ _ _ _ _ _ _ _ _ _ i (by omega)⟩
set_option maxRecDepth 100000 in
set_option maxHeartbeats 4000000 in
theorem lstat_file (lk top : Nat) (k : Int) (p d : ByteArray) (a n : Int) (A : Option Addr) (m c : Nat) (W : World) (htop : top <= 100000) (hl : ats.length <= nf) (hnf : nf <= 20000) (hx64 : ∀ x ∈ fed,x < 18446744073709551616) (h : RuAt R FA nf cf fed ats.length W) :
  Calls Tryz.prog 34 #[.pointer (some ⟨R,0,none⟩),.agg #[.int .i64 (1 : Nat),.int .i64 lk,.int .i64 top],opV k p d a n A m c] W (ReadsR R FA nf cf fed W (statE fed (1,lk,top) ats)) := by
 have HE : Hid (statE fed (1,lk,top) ats = (sizeP fed top ats).bind fun size ats => .val ⟨0,1,lk,size,[],[]⟩ ats) := rfl
 obtain ⟨W0,hW0⟩ : ∃ W0,statW W 1 lk top #[.int .i64 k,.string p,.string d,.int .i64 a,.int .i64 n,.slice A m c] = W0 := ⟨_,rfl⟩
 have hb0 : Below W.heap.size W W0 := by rw [<- hW0];exact lay4_below ..
 have hs0 : W0.heap.size = W.heap.size + 4 := by rw [<- hW0];exact lay4_size ..
 have HZ : Hid (CellsAt W0 (W.heap.size + 1 + 1) 6 (cellsR 0 0 0 0)) := by rw [Hid,<- hW0];exact statW_two ..
 have HO : Hid (CellsAt W0 (W.heap.size + 1 + 1 + 1) 6 (cellsR 0 1 lk 0)) := by rw [Hid,<- hW0];exact statW_three ..
 have HS := Lib.hid (lsize_any (R := R) (FA := FA) (nf := nf) (cf := cf) (fed := fed) (ats := ats) top W0 htop hl (by omega) hx64 (h.below hb0))
 have HOFF := Lib.hid (h.off (b := W.heap.size + 1 + 1) (by omega))
 have HOFF3 := Lib.hid (h.off (b := W.heap.size + 1 + 1 + 1) (by omega))
 have HU0 : Hid (UB R W.heap.size W W0) := UB.of_below hb0
 clear h hx64 hb0
 unfold statW lay4 at hW0
 rw [show ((1 : Nat) : Int) = 1 from rfl] at hW0
 have HW0 := Lib.hid hW0
 clear hW0
 unfold opV
 go_enter Tryz.func34,Tryz.ntmps34
 go_wp2_with fail
 rw [HW0.out]
 refine reads_case HS.out ?_ ?_
 ·intro o l w2 hr hb hu
  go_wp2_with fail
  exact ⟨rfl,endsR_stop (by rw [HE.out,hr.out];rfl) hb.out (HU0.out.trans (hu.out.mono (by omega)))⟩
 ·intro x l w2 hr hb hu
  have HRES : Hid (statE fed (1,lk,top) ats = .val ⟨0,1,lk,x,[],[]⟩ l) := by rw [Hid,HE.out,hr.out];rfl
  have HO2 := Lib.hid (HO.out.ub hu.out (by omega) HOFF3.out.1)
  have HZ2 := Lib.hid (HZ.out.ub hu.out (by omega) HOFF.out.1)
  have HU2 := Lib.hid (HU0.out.trans (hu.out.mono (by omega)))
  have q3 := HO2.out.1 3 (by omega)
  have qf := HO2.out.2 3
  unfold cellsR at q3
  obtain ⟨w3,hw3⟩ : ∃ w3,w2.setCell ⟨W.heap.size + 1 + 1 + 1,3,none⟩ (.int .i64 x) = w3 := ⟨_,rfl⟩
  have HO3 : Hid (CellsAt w3 (W.heap.size + 1 + 1 + 1) 6 (cellsR 0 1 lk x)) := by rw [Hid,<- hw3];exact cellsR_n HO2.out
  have HZ3 : Hid (CellsAt w3 (W.heap.size + 1 + 1) 6 (cellsR 0 0 0 0)) := by rw [Hid,<- hw3];exact HZ2.out.set (by omega)
  have HR3 : Hid (RuAt R FA nf cf fed l.length w3) := by rw [Hid,<- hw3];exact hb.out.set HOFF3.out
  have HU3 : Hid (UB R W.heap.size W w3) := by rw [Hid,<- hw3];exact HU2.out.set (.inl (by omega))
  clear hr hb hu HZ HO HS HE HO2 HZ2 HU2 HW0
  obtain ⟨w4,hw4⟩ : ∃ w4,putTo w3 (W.heap.size + 1 + 1) (cellsR 0 1 lk x) 6 = w4 := ⟨_,rfl⟩
  have HC4 : Hid (CellsAt w4 (W.heap.size + 1 + 1) 6 (cellsR 0 1 lk x)) := by rw [Hid,<- hw4];exact putTo_all HZ3.out
  have HR4 := Lib.hid ((HR3.out.putTo (f := cellsR 0 1 lk x) HOFF.out 6))
  have HU4 := Lib.hid ((HU3.out.putTo (f := cellsR 0 1 lk x) (show W.heap.size <= W.heap.size + 1 + 1 by omega) 6))
  rw [hw4] at HR4 HU4
  have c0 := HO3.out.1 0 (by omega)
  have y0 := HZ3.out.2 0
  have z0 := HZ3.out.1 0 (by omega)
  have c1 := HO3.out.1 1 (by omega)
  have y1 := HZ3.out.2 1
  have z1 := HZ3.out.1 1 (by omega)
  have c2 := HO3.out.1 2 (by omega)
  have y2 := HZ3.out.2 2
  have z2 := HZ3.out.1 2 (by omega)
  have c3 := HO3.out.1 3 (by omega)
  have y3 := HZ3.out.2 3
  have z3 := HZ3.out.1 3 (by omega)
  have c4 := HO3.out.1 4 (by omega)
  have y4 := HZ3.out.2 4
  have z4 := HZ3.out.1 4 (by omega)
  have c5 := HO3.out.1 5 (by omega)
  have y5 := HZ3.out.2 5
  have z5 := HZ3.out.1 5 (by omega)
  unfold cellsR at c0 z0 c1 z1 c2 z2 c3 z3 c4 z4 c5 z5
  unfold putTo putTo putTo putTo putTo putTo putTo cellsR at hw4
  go_wp2_with fail
  have g0 := HC4.out.1 0 (by omega)
  have g1 := HC4.out.1 1 (by omega)
  have g2 := HC4.out.1 2 (by omega)
  have g3 := HC4.out.1 3 (by omega)
  have g4 := HC4.out.1 4 (by omega)
  have g5 := HC4.out.1 5 (by omega)
  unfold cellsR at g0 g1 g2 g3 g4 g5
  refine bodyPost_ret (v := .agg #[.int .i64 0,.int .i64 1,.int .i64 lk,.int .i64 x,.slice none 0 0,.slice none 0 0]) (by simp [results,Tryz.results34,go_sem,g0,g1,g2,g3,g4,g5]) rfl ?_
  exact endsR_val HRES.out (resAt_plain _ _ _ _ _) HR4.out HU4.out
end
section
open Go.RowKit
attribute [local go_sem] Oper.semAt_some
variable {R : Nat} {FA : Option Addr} {nf cf : Nat} {fed ats : List Nat}
theorem CellsAt.putObj {W : World} {X B n : Nat} {f : Nat -> Value} {o : Obj} (h : CellsAt W X n f) (hne : X ≠ B) : CellsAt (W.putObj B o) X n f :=
 ⟨fun i hi => (putObj_cell _ _ _ _ _ hne).trans (h.1 i hi),fun i => (World.frozen?_of_block (w := W) (World.putObj_heap_other hne)).trans (h.2 i)⟩
theorem putTo_heap {W : World} {X b : Nat} {f : Nat -> Value} (hne : b ≠ X) : ∀ k,(putTo W X f k).heap[b]? = W.heap[b]?
 | 0 => rfl
 | k + 1 => (Below.heap_setCell (putTo W X f k) ⟨X,k,none⟩ (f k) b hne).trans (putTo_heap hne k)
theorem behindU_putObj {W : World} {o : Out} {l : List Nat} {b : Nat} {ob : Obj} (h : BehindU (α := Nat) R FA nf cf fed (.stop o l) W) (hb : OffU R FA nf b) : BehindU (α := Nat) R FA nf cf fed (.stop o l) (W.putObj b ob) := by
 cases o with
 | need p => obtain ⟨u,hu⟩ := h;exact ⟨u,hu.putObj hb⟩
 | err c => exact RuAt.putObj h hb
theorem EntAt.ub {Rb Tb Eb top m : Nat} {ev : Value} {W W' : World} (h : EntAt R Rb Tb Eb top ev W) (hb : UB R m W W') (h1 : Rb < m ∧ Rb ≠ R) (h2 : Tb < m ∧ Tb ≠ R) (h3 : Eb < m ∧ Eb ≠ R) : EntAt R Rb Tb Eb top ev W' :=
 ⟨(hb.cell h1.1 h1.2).trans h.1,(hb.cell h2.1 h2.2).trans h.2.1,(hb.cell h3.1 h3.2).trans h.2.2⟩
theorem EntAt.putObj {Rb Tb Eb top b : Nat} {ev : Value} {W : World} {o : Obj} (h : EntAt R Rb Tb Eb top ev W) (h1 : Rb ≠ b) (h2 : Tb ≠ b) (h3 : Eb ≠ b) : EntAt R Rb Tb Eb top ev (W.putObj b o) :=
 ⟨(putObj_cell _ _ _ _ _ h1).trans h.1,(putObj_cell _ _ _ _ _ h2).trans h.2.1,(putObj_cell _ _ _ _ _ h3).trans h.2.2⟩
theorem EntAt.set {Rb Tb Eb top b i : Nat} {ev v : Value} {W : World} (h : EntAt R Rb Tb Eb top ev W) (h1 : b ≠ Rb) (h2 : b ≠ Tb) (h3 : b ≠ Eb) : EntAt R Rb Tb Eb top ev (W.setCell ⟨b,i,none⟩ v) :=
 ⟨(World.cell?_setCell_other _ _ _ _ (by intro e;injection e with e;exact h1 e)).trans h.1,(World.cell?_setCell_other _ _ _ _ (by intro e;injection e with e;exact h2 e)).trans h.2.1,(World.cell?_setCell_other _ _ _ _ (by intro e;injection e with e;exact h3 e)).trans h.2.2⟩
structure StatI (R : Nat) (FA : Option Addr) (nf cf : Nat) (fed : List Nat) (top : Nat) (kd lk : Int) (W : World) (n : Nat) (l : List Nat) (V : World) : Prop where
 rd : RuAt R FA nf cf fed l.length V
 ent : EntAt R (W.heap.size + 4) (W.heap.size + 4 + 1) (W.heap.size + 4 + 2) top (.func (.func 60) #[] #[]) V
 len : l.length <= nf
 out : CellsAt V (W.heap.size + 1 + 1 + 1) 6 (cellsR 0 kd lk n)
 zer : CellsAt V (W.heap.size + 1 + 1) 6 (cellsR 0 0 0 0)
 ub : UB R W.heap.size W V
theorem StatI.step {top n : Nat} {kd lk : Int} {W V V' : World} {l l' : List Nat} (h : StatI R FA nf cf fed top kd lk W n l V) (h1 : RuAt R FA nf cf fed l'.length V') (h2 : UB R V.heap.size V V') (h3 : l'.length <= nf) (hs : W.heap.size + 7 <= V.heap.size) (hR : R < W.heap.size) : StatI R FA nf cf fed top kd lk W n l' V' :=
 ⟨h1,h.ent.ub h2 ⟨by omega,by omega⟩ ⟨by omega,by omega⟩ ⟨by omega,by omega⟩,h3,h.out.ub h2 (by omega) (by omega),h.zer.ub h2 (by omega) (by omega),h.ub.trans (h2.mono (by omega))⟩
theorem StatI.putObj {top n : Nat} {kd lk : Int} {W V : World} {l : List Nat} {b : Nat} {o : Obj} (h : StatI R FA nf cf fed top kd lk W n l V) (hO : ∀ b,W.heap.size <= b -> OffU R FA nf b) (hb : W.heap.size + 7 <= b) : StatI R FA nf cf fed top kd lk W n l (V.putObj b o) :=
 ⟨h.rd.putObj (hO b (by omega)),h.ent.putObj (by omega) (by omega) (by omega),h.len,h.out.putObj (by omega),h.zer.putObj (by omega),h.ub.putObj (by omega)⟩
theorem StatI.count {top n : Nat} {kd lk : Int} {W V : World} {l : List Nat} (h : StatI R FA nf cf fed top kd lk W n l V) (hO : ∀ b,W.heap.size <= b -> OffU R FA nf b) : StatI R FA nf cf fed top kd lk W (n + 1) l (V.setCell ⟨W.heap.size + 1 + 1 + 1,3,none⟩ (.int .i64 (n + 1 : Nat))) :=
 ⟨h.rd.set (hO _ (by omega)),h.ent.set (by omega) (by omega) (by omega),h.len,cellsR_n h.out,h.zer.set (by omega),h.ub.set (.inl (by omega))⟩
def entW (W : World) (R top : Nat) (ev : Value) : World := ((W.alloc (.cells #[.pointer (some ⟨R,0,none⟩)] 58)).alloc (.cells #[.int .i64 top] 3)).alloc (.cells #[ev] 127)
theorem lentries_any (top : Nat) (fn : Fn) (cap : Array Value) (W : World) :
  Calls Tryz.prog 59 #[.pointer (some ⟨R,0,none⟩),.int .i64 top,.func fn #[] cap] W fun e W' => e = .returned (.func (.func 113) #[] #[.pointer (some ⟨W.heap.size,0,none⟩),.pointer (some ⟨W.heap.size + 1,0,none⟩),.pointer (some ⟨W.heap.size + 2,0,none⟩)]) ∧ W' = entW W R top (.func fn #[] cap) := by
 have hmf : ∀ (fn : Fn) (first cap : Array Value) (w : World),(Instr.makeFunc fn first cap).run Tryz.prog w = .ok (.func fn first cap) w := fun _ _ _ _ => rfl
 go_enter Tryz.func59,Tryz.ntmps59
 go_wp2
 go_ret
 exact ⟨rfl,rfl⟩
theorem entW_below (W : World) (R top : Nat) (ev : Value) : Below W.heap.size W (entW W R top ev) := (((Below.refl _ W).alloc (Nat.le_refl _) _).alloc (by simp) _).alloc (by simp;omega) _
theorem entW_size (W : World) (R top : Nat) (ev : Value) : (entW W R top ev).heap.size = W.heap.size + 3 := by simp [entW]
theorem entW_at (W : World) (R top : Nat) (ev : Value) : EntAt R W.heap.size (W.heap.size + 1) (W.heap.size + 2) top ev (entW W R top ev) := by
 have e1 : (W.alloc (.cells #[.pointer (some ⟨R,0,none⟩)] 58)).heap.size = W.heap.size + 1 := by simp
 have e2 : ((W.alloc (.cells #[.pointer (some ⟨R,0,none⟩)] 58)).alloc (.cells #[.int .i64 top] 3)).heap.size = W.heap.size + 2 := by simp
 have c1 := cell_new W #[.pointer (some ⟨R,0,none⟩)] 58 0 _ rfl
 have c2 := cell_new (W.alloc (.cells #[.pointer (some ⟨R,0,none⟩)] 58)) #[.int .i64 top] 3 0 _ rfl
 have c3 := cell_new ((W.alloc (.cells #[.pointer (some ⟨R,0,none⟩)] 58)).alloc (.cells #[.int .i64 top] 3)) #[ev] 127 0 _ rfl
 rw [e1] at c2
 rw [e2] at c3
 have b2 : Below (W.heap.size + 1) (W.alloc (.cells #[.pointer (some ⟨R,0,none⟩)] 58)) (entW W R top ev) := ((Below.refl _ _).alloc (by simp) _).alloc (by simp) _
 have b3 : Below (W.heap.size + 2) ((W.alloc (.cells #[.pointer (some ⟨R,0,none⟩)] 58)).alloc (.cells #[.int .i64 top] 3)) (entW W R top ev) := (Below.refl _ _).alloc (by simp) _
 exact ⟨(b2.cell (p := ⟨W.heap.size,0,none⟩) (by show W.heap.size < _;omega)).trans c1,(b3.cell (p := ⟨W.heap.size + 1,0,none⟩) (by show W.heap.size + 1 < _;omega)).trans c2,c3⟩
theorem statOne_any (line : Nat) (W : World) : Calls Tryz.prog 60 #[.int .i64 line] W fun e W' => e = .returned (.tuple #[]) ∧ W' = W := by
 go_enter Tryz.func60,Tryz.ntmps60
 go_wp2
 go_end0
 exact ⟨rfl,rfl⟩
theorem statE_dir {nd : Nat × Nat × Nat} (h : nd.1 ≠ 1) : statE fed nd ats = (bucketsE countE fed nd.2.2 7 0 0 ats).bind fun n ats => .val ⟨0,nd.1,nd.2.1,n,[],[]⟩ ats := by
 unfold statE
 rw [if_neg h]
set_option maxRecDepth 100000 in
set_option maxHeartbeats 8000000 in
theorem lstat_dir (kd lk top : Nat) (hkd : kd ≠ 1) (k : Int) (p d : ByteArray) (a n : Int) (A : Option Addr) (m c : Nat) (W : World) (htop : top <= 100000) (hl : ats.length <= nf) (hnf : nf <= 20000) (hx64 : ∀ x ∈ fed,x < 18446744073709551616) (h : RuAt R FA nf cf fed ats.length W) :
  Calls Tryz.prog 34 #[.pointer (some ⟨R,0,none⟩),.agg #[.int .i64 kd,.int .i64 lk,.int .i64 top],opV k p d a n A m c] W (ReadsR R FA nf cf fed W (statE fed (kd,lk,top) ats)) := by
 have HE := Lib.hid (statE_dir (fed := fed) (ats := ats) (nd := (kd,lk,top)) hkd)
 have hk1 : ((kd : Int) == 1) = false := by rw [beq_eq_false_iff_ne];omega
 obtain ⟨W0,hW0⟩ : ∃ W0,statW W kd lk top #[.int .i64 k,.string p,.string d,.int .i64 a,.int .i64 n,.slice A m c] = W0 := ⟨_,rfl⟩
 have hb0 : Below W.heap.size W W0 := by rw [<- hW0];exact lay4_below ..
 have hs0 : W0.heap.size = W.heap.size + 4 := by rw [<- hW0];exact lay4_size ..
 have HZ : Hid (CellsAt W0 (W.heap.size + 1 + 1) 6 (cellsR 0 0 0 0)) := by rw [Hid,<- hW0];exact statW_two ..
 have HO : Hid (CellsAt W0 (W.heap.size + 1 + 1 + 1) 6 (cellsR 0 kd lk 0)) := by rw [Hid,<- hW0];exact statW_three ..
 have HR0 := Lib.hid (h.below hb0)
 have HOFF := Lib.hid (h.off (b := W.heap.size + 1 + 1) (by omega))
 have HOFF3 := Lib.hid (h.off (b := W.heap.size + 1 + 1 + 1) (by omega))
 have HU0 : Hid (UB R W.heap.size W W0) := UB.of_below hb0
 have HX := Lib.hid hx64
 have hRl := h.lt
 have HOFFA := Lib.hid (fun b (hb : W.heap.size <= b) => h.off hb)
 clear h hx64 hb0
 unfold statW lay4 at hW0
 have HW0 := Lib.hid hW0
 clear hW0
 unfold opV
 refine calls_of_wpB (f := 34) Tryz.func34 rfl ?_
 simp only [Tryz.ntmps34,List.size_toArray,List.length_cons,List.length_nil,Nat.reduceAdd,Nat.reduceSub,Array.replicate_succ,Array.replicate_zero,List.push_toArray,List.append_toArray,List.nil_append,List.cons_append]
 refine wpB_seq_k fun K hK => ?_
 go_wp2_with fail
 refine wpB_seq_k fun K hK => ?_
 go_wp2_with fail
 refine wpB_seq_k fun K hK => ?_
 go_wp2_with fail
 refine wpB_seq ?_
 refine wpB_seq_k fun K hK => ?_
 have HEN := Lib.hid (fun W => lentries_any (R := R) top (.func 60) #[] W)
 go_wp2_with (go_at_call 59;rw [HW0.out];refine (HEN.out _).mono ?_;rintro e w2 ⟨rfl,rfl⟩)
 refine wpB_block ?_
 obtain ⟨V,hV⟩ : ∃ V,entW W0 R top (.func (.func 60) #[] #[]) = V := ⟨_,rfl⟩
 have hbV : Below W0.heap.size W0 V := by rw [<- hV];exact entW_below ..
 have hsV : V.heap.size = W.heap.size + 7 := by rw [<- hV,entW_size];omega
 have HEA : Hid (EntAt R (W.heap.size + 4) (W.heap.size + 4 + 1) (W.heap.size + 4 + 2) top (.func (.func 60) #[] #[]) V) := by
  have := entW_at W0 R top (.func (.func 60) #[] #[])
  rw [hs0,hV] at this
  exact this
 have HRV := Lib.hid (HR0.out.below hbV)
 have HOV : Hid (CellsAt V (W.heap.size + 1 + 1 + 1) 6 (cellsR 0 kd lk (0 : Nat))) := HO.out.below hbV (by omega)
 have HZV : Hid (CellsAt V (W.heap.size + 1 + 1) 6 (cellsR 0 0 0 0)) := HZ.out.below hbV (by omega)
 have HUV : Hid (UB R W.heap.size W V) := HU0.out.trans ((UB.of_below hbV).mono (by omega))
 rw [hV]
 clear hV hbV HZ HO HU0 HW0 HEN
 have hOF : ∀ b,W.heap.size <= b -> OffU R FA nf b := HOFFA.out
 have HOF := Lib.hid hOF
 clear hOF
 refine wpB_stat (R := R) (FA := FA) (nf := nf) (cf := cf) (fed := fed) (ats := ats) (Rb := W.heap.size + 4) (Tb := W.heap.size + 4 + 1) (Eb := W.heap.size + 4 + 2) (top := top) Tryz.func34 countE (StatI R FA nf cf fed top kd lk W) (fun _ n l V => StatI R FA nf cf fed top kd lk W (n + 1) l V) (fun o l V' => BehindU (α := Nat) R FA nf cf fed (.stop o l) V' ∧ UB R W.heap.size W V') 0 id (fun line a1 l1 a2 l2 h => by cases h;rfl) rfl htop hnf HX.out (by omega) ?_ ?_ ?_ ?_ ?_ ?_ ?_ ?_ ?_ ?_ ?_
 ·intro n l V1 h
  exact ⟨h.rd,h.ent,h.len⟩
 ·intro n l l' V1 V2 hs h h1 h2 h3
  rw [hsV] at hs
  exact h.step h1 h2 h3 (by omega) hRl
 ·intro n l V1 b o h hb _ _
  exact h.putObj HOF.out (by omega)
 ·intro n l o l' V1 V2 hs h h1 h2
  rw [hsV] at hs
  exact ⟨h1,h.ub.trans (h2.mono (by omega))⟩
 ·intro line many n l V1 hs hmu h
  have hmu' : n < 7168 := by simpa using hmu
  have q3 := h.out.1 3 (by omega)
  have qf := h.out.2 3
  unfold cellsR at q3
  have hwn : IntKind.i64.wrap ((n : Int) + 1) = (n : Int) + 1 := IntWalk.i64_in _ (by omega)
  have HI := Lib.hid (h.count HOF.out)
  rw [show ((n + 1 : Nat) : Int) = (n : Int) + 1 from by omega] at HI
  clear h hs hmu
  gi_wp2
  refine ⟨HI.out,by simp [World.setCell],fun b h1 h2 => Below.heap_setCell V1 ⟨W.heap.size + 1 + 1 + 1,3,none⟩ _ b (by show b ≠ W.heap.size + 1 + 1 + 1;omega)⟩
 ·intro line n l V1 o h _
  exact h.putObj HOF.out (by omega)
 ·intro line n l V1 h
  exact h.ent.2.2
 ·intro line n l V1 h1 h2 h3 h4 h
  refine (statOne_any line V1).mono ?_
  rintro e V2 ⟨rfl,rfl⟩
  exact ⟨⟨rfl,h⟩,Nat.le_refl _,fun _ _ _ => rfl⟩
 ·intro V1 hb
  exact ⟨HRV.out.below hb,⟨(hb.cell (p := ⟨W.heap.size + 4,0,none⟩) (by show W.heap.size + 4 < _;omega)).trans HEA.out.1,(hb.cell (p := ⟨W.heap.size + 4 + 1,0,none⟩) (by show W.heap.size + 4 + 1 < _;omega)).trans HEA.out.2.1,(hb.cell (p := ⟨W.heap.size + 4 + 2,0,none⟩) (by show W.heap.size + 4 + 2 < _;omega)).trans HEA.out.2.2⟩,hl,HOV.out.below hb (by omega),HZV.out.below hb (by omega),HUV.out.trans ((UB.of_below hb).mono (by omega))⟩
 ·intro n l V1 hq h hd
  have HRES : Hid (statE fed (kd,lk,top) ats = .val ⟨0,kd,lk,n,[],[]⟩ l) := by rw [Hid,HE.out,hq.out];rfl
  have HO3 := Lib.hid h.out
  have HZ3 := Lib.hid h.zer
  have HR3 := Lib.hid h.rd
  have HU3 := Lib.hid h.ub
  have HD := Lib.hid hd
  clear h hd hq HE
  show WpB _ _ _ _ _ _
  refine wpB_of_wp ?_
  obtain ⟨w4,hw4⟩ : ∃ w4,putTo V1 (W.heap.size + 1 + 1) (cellsR 0 kd lk n) 6 = w4 := ⟨_,rfl⟩
  have HC4 : Hid (CellsAt w4 (W.heap.size + 1 + 1) 6 (cellsR 0 kd lk n)) := by rw [Hid,<- hw4];exact putTo_all HZ3.out
  have HR4 := Lib.hid ((HR3.out.putTo (f := cellsR 0 kd lk n) HOFF.out 6))
  have HU4 := Lib.hid ((HU3.out.putTo (f := cellsR 0 kd lk n) (show W.heap.size <= W.heap.size + 1 + 1 by omega) 6))
  rw [hw4] at HR4 HU4
  have c0 := HO3.out.1 0 (by omega)
  have y0 := HZ3.out.2 0
  have z0 := HZ3.out.1 0 (by omega)
  have c1 := HO3.out.1 1 (by omega)
  have y1 := HZ3.out.2 1
  have z1 := HZ3.out.1 1 (by omega)
  have c2 := HO3.out.1 2 (by omega)
  have y2 := HZ3.out.2 2
  have z2 := HZ3.out.1 2 (by omega)
  have c3 := HO3.out.1 3 (by omega)
  have y3 := HZ3.out.2 3
  have z3 := HZ3.out.1 3 (by omega)
  have c4 := HO3.out.1 4 (by omega)
  have y4 := HZ3.out.2 4
  have z4 := HZ3.out.1 4 (by omega)
  have c5 := HO3.out.1 5 (by omega)
  have y5 := HZ3.out.2 5
  have z5 := HZ3.out.1 5 (by omega)
  unfold cellsR at c0 z0 c1 z1 c2 z2 c3 z3 c4 z4 c5 z5
  have HW4 := Lib.hid hw4
  unfold putTo putTo putTo putTo putTo putTo putTo cellsR at hw4
  have HD4 : Hid (w4.heap[V.heap.size]? = some (.deferred (some []))) := by
   rw [Hid,<- HW4.out]
   exact (putTo_heap (by omega) 6).trans HD.out
  go_wp2_with fail
  have HC5 := HC4.out.putObj (B := V.heap.size) (o := .deferred none) (by omega)
  have g0 := HC5.1 0 (by omega)
  have g1 := HC5.1 1 (by omega)
  have g2 := HC5.1 2 (by omega)
  have g3 := HC5.1 3 (by omega)
  have g4 := HC5.1 4 (by omega)
  have g5 := HC5.1 5 (by omega)
  unfold cellsR at g0 g1 g2 g3 g4 g5
  rw [<- hsV]
  refine ret_mark (v := .agg #[.int .i64 0,.int .i64 kd,.int .i64 lk,.int .i64 n,.slice none 0 0,.slice none 0 0]) HD4.out (by simp [results,Tryz.results34,go_sem,g0,g1,g2,g3,g4,g5]) ?_
  exact endsR_val HRES.out (resAt_plain _ _ _ _ _) (HR4.out.putObj (HOF.out _ (by omega))) (HU4.out.putObj (by omega))
 ·intro o l V1 hq h hd
  refine panic_mark hd ?_
  exact endsR_stop (by rw [HE.out,hq.out];rfl) (behindU_putObj h.1 (HOF.out _ (by omega))) (h.2.putObj (by omega))
end
section
open Go.RowKit
theorem wpIn_append_lies {F : Fence} {nn : Nat} {P : Program} {w : World} {o : Oper} {a : Act} {K : Act -> World -> Prop} {Q : Exit -> Act -> World -> Prop} (s x : Operand) (t : TypeId)
  (ho : o.op = .call { callee := .builtin .append,args := #[s,x],argTypes := #[t,t] })
  (base : Nat) (e : TypeId) (i : TypeInfo) (z : Value) (size bytes : Nat) (ht : P.underlying t = some (.slice e)) (hi : P.info? e = some i) (hz : i.zero = some z)
  (hsize : i.size = size) (hby : i.bytes = bytes) (hzs : z.cells.size = size) (hsz : 0 < size)
  (v : Value) (n : Nat) (xs : List Value) (hs : a.eval s = v) (hown : w.ownsRow base e size v n xs)
  (ad : Addr) (m c : Nat) (news : List Value) (hx : a.eval x = .slice (some ad) m c) (hl : news.length = m * size) (hnews : ∀ j u,news[j]? = some u -> w.cell? (ad.add j) = some u) (h1 : ∀ u ∈ news,u.oneCell' = true)
  (hm : 0 < m) (h63 : n + m <= maxLen) (hbytes : (n + m) * bytes <= 140737488355328) (hbase : base <= w.heap.size) (H : Nat) (hH : w.heap.size = H)
  (h : ∀ g cap w',w'.ownsRow base e size (.slice (some ⟨g,0,none⟩) (n + m) cap) (n + m) (xs ++ news) -> w.grownBy w' v.ownBlock -> (v.ownBlock = some g ∨ g = H) -> g < w'.heap.size -> K (a.put o.dst (.slice (some ⟨g,0,none⟩) (n + m) cap)) w') : o.wpIn F nn P a w K Q := by
 obtain ⟨g,cap,w',hr,h2,h3,h4,h5⟩ := run_append_lies (P := P) w t o.type base e i z size bytes ht hi hz hsize hby hzs hsz v n xs hown ad m c news hl hnews h1 hm h63 hbytes hbase H hH
 unfold Oper.wpIn
 refine ⟨by simp [Oper.about,ho,resolve,Target.leads,Sem.run_pure],?_⟩
 rw [Oper.semAt_plain F _ _ (by rw [ho];intro c hc';cases hc')]
 simp [execOp,ho,resolve,invoke,builtin,hs,hx,hr,Result.andThen]
 exact h g cap w' h2 h3 h4 h5
variable {R : Nat} {FA : Option Addr} {nf cf : Nat} {fed ats : List Nat}
theorem UB.grown {V V' : World} (h : UB R V.heap.size V V') : V.grownBy V' (some R) := ⟨h.os,h.tape,h.output,h.size,fun k hk hne => h.keep k hk (fun e => hne (by rw [e]))⟩
structure ListOne (R : Nat) (FA : Option Addr) (nf cf : Nat) (fed : List Nat) (Ab base : Nat) (v : Value) (names : List (List UInt8)) (l : List Nat) (V V' : World) : Prop where
 rd : RuAt R FA nf cf fed l.length V'
 own : ∃ v',V'.cell? ⟨Ab,0,none⟩ = some v' ∧ V'.ownsRow base 9 1 v' names.length (names.map encT) ∧ (v'.ownBlock = v.ownBlock ∨ ∀ g,v'.ownBlock = some g -> V.heap.size <= g)
 frz : V'.frozen? ⟨Ab,0,none⟩ = false
 os : V'.os = V.os
 tape : V'.tape = V.tape
 output : V'.output = V.output
 size : V.heap.size <= V'.heap.size
 keep : ∀ b,b < V.heap.size -> b ≠ R -> b ≠ Ab -> v.ownBlock ≠ some b -> V'.heap[b]? = V.heap[b]?
set_option maxRecDepth 100000 in
set_option maxHeartbeats 4000000 in
theorem listOne_any (Ab Cb line base : Nat) (v : Value) (names : List (List UInt8)) (V : World) (hline : line <= 100000) (hl : ats.length <= nf) (hnf : nf <= 100000) (hx64 : ∀ x ∈ fed,x < 18446744073709551616) (h : RuAt R FA nf cf fed ats.length V)
    (hA : V.cell? ⟨Ab,0,none⟩ = some v) (hAf : V.frozen? ⟨Ab,0,none⟩ = false) (hC : V.cell? ⟨Cb,0,none⟩ = some (.pointer (some ⟨R,0,none⟩))) (hAR : Ab ≠ R) (hCR : Cb ≠ R) (hoffA : OffU R FA nf Ab) (hown : V.ownsRow base 9 1 v names.length (names.map encT)) (hvo : ∀ g,v.ownBlock = some g -> OffU R FA nf g ∧ g ≠ Ab) (hb : base <= V.heap.size) (hnl : names.length <= 10000) :
    Calls Tryz.prog 61 #[.int .i64 (line : Nat),.pointer (some ⟨Ab,0,none⟩),.pointer (some ⟨Cb,0,none⟩)] V fun e V' =>
      match nameP fed line ats with
      | .val s l => e = .returned (.tuple #[]) ∧ ListOne R FA nf cf fed Ab base v (names ++ [s]) l V V'
      | .stop o l => e = .panicked [outU o] ∧ BehindU (α := Nat) R FA nf cf fed (.stop o l) V' ∧ UB R V.heap.size V V' := by
  obtain ⟨i0,hi,hz0,hz1,hz2⟩ := info_parts Tryz.infoStr
  have HN := Lib.hid (lname_any line { V with drawn := V.drawn + 1 } hline hl hnf hx64 h.drew')
  have HFL := Lib.hid h.fedl
  have hAl : Ab < V.heap.size := World.block_lt_of_cell? V ⟨Ab,0,none⟩ hA
  have hCl : Cb < V.heap.size := World.block_lt_of_cell? V ⟨Cb,0,none⟩ hC
  have hmx : Tryz.prog.follows .mixedOrders = true := by kernel_rfl
  have HO := Lib.hid hown
  have HV := Lib.hid hvo
  have HLT := Lib.hid hown.lt
  obtain ⟨k,hk⟩ : ∃ k,names.length = k := ⟨_,rfl⟩
  have HK := Lib.hid hk
  have hrl := h.lt
  rw [hk] at HO hnl
  clear hown hvo hx64 h hk
  refine (callsIn_wide (n := 10)).1 ?_
  refine callsIn_of_wp Tryz.func61 rfl trivial ?_ rfl
  simp only [Tryz.ntmps61,List.size_toArray,List.length_cons,List.length_nil,Nat.reduceAdd,Nat.reduceSub,Array.replicate_succ,Array.replicate_zero,List.push_toArray,List.append_toArray,List.nil_append,List.cons_append]
  refine whichever_region (fun w2 => w2.cell? ⟨Ab,0,none⟩ = some v ∧ w2.cell? ⟨Cb,0,none⟩ = some (.pointer (some ⟨R,0,none⟩))) [5,6] hmx ?_
  have hS0 : V.drew.cell? ⟨Ab,0,none⟩ = some v ∧ V.drew.cell? ⟨Cb,0,none⟩ = some (.pointer (some ⟨R,0,none⟩)) := ⟨hA,hC⟩
  refine whichever_take 0 v [5,6] rfl (by kernel_rfl) (fun _ _ _ h => h) hS0 (by rfl) (fun w hw => ?_) ?_
  · obtain ⟨hw1,hw2⟩ := hw
    constructor <;> go_simp
  refine whichever_take 1 (.pointer (some ⟨R,0,none⟩)) [3,4,5,6] rfl (by kernel_rfl) (fun _ _ _ h => h) hS0 (by rfl) (fun w hw => ?_) ?_
  · obtain ⟨hw1,hw2⟩ := hw
    constructor <;> go_simp
  refine whichever_take 2 (.int .i64 line) [3,4,5,6] rfl (by kernel_rfl) (fun _ _ _ h => h) hS0 (by rfl) (fun w hw => ?_) ?_
  · constructor <;> go_simp
  refine whichever_next 3 rfl (by kernel_rfl) (by rfl) ?_
  go_simp
  refine ⟨trivial,?_⟩
  gi_at_call 62
  refine callsIn_wide.2 (reads_case HN.out ?_ ?_)
  · intro o l w2 hr hb2 hu
    simp only
    rw [hr.out]
    exact ⟨rfl,rfl,hb2.out,(UB.drew' R V.heap.size V).trans hu.out⟩
  · intro s l w2 hr hb2 hu
    have hA2 : w2.cell? ⟨Ab,0,none⟩ = some v := (hu.out.cell (b := Ab) (off := 0) hAl hAR).trans hA
    have hC2 : w2.cell? ⟨Cb,0,none⟩ = some (.pointer (some ⟨R,0,none⟩)) := (hu.out.cell (b := Cb) (off := 0) hCl hCR).trans hC
    have hAf2 : w2.frozen? ⟨Ab,0,none⟩ = false := (hu.out.frozen (b := Ab) (off := 0) hAl hAR).trans hAf
    have HU2 := Lib.hid ((UB.drew' R V.heap.size V).trans hu.out)
    have hs2 : V.heap.size <= w2.heap.size := HU2.out.size
    have HO2 : Hid (w2.ownsRow base 9 1 v k (names.map encT)) := HO.out.kept HU2.out.grown (by
      cases hv : v.ownBlock with
      | none => exact .inl rfl
      | some g => exact .inr (fun e => (HV.out g hv).1.1 (by injection e with e)))
    have hA3 : (w2.alloc (.cells #[.string (ofBytes s)] 9)).cell? ⟨Ab,0,none⟩ = some v := (((Below.refl w2.heap.size w2).alloc (Nat.le_refl _) _).cell (p := ⟨Ab,0,none⟩) (by show Ab < _;omega)).trans hA2
    have hC3 : (w2.alloc (.cells #[.string (ofBytes s)] 9)).cell? ⟨Cb,0,none⟩ = some (.pointer (some ⟨R,0,none⟩)) := (((Below.refl w2.heap.size w2).alloc (Nat.le_refl _) _).cell (p := ⟨Cb,0,none⟩) (by show Cb < _;omega)).trans hC2
    have hAf3 : (w2.alloc (.cells #[.string (ofBytes s)] 9)).frozen? ⟨Ab,0,none⟩ = false := (((Below.refl w2.heap.size w2).alloc (Nat.le_refl _) _).frozen (p := ⟨Ab,0,none⟩) (by show Ab < _;omega)).trans hAf2
    have HR3 : Hid (RuAt R FA nf cf fed l.length (w2.alloc (.cells #[.string (ofBytes s)] 9))) := hb2.out.alloc _
    have HU3 : Hid (UB R V.heap.size V (w2.alloc (.cells #[.string (ofBytes s)] 9))) := HU2.out.alloc hs2 _
    simp only
    refine ⟨⟨hA2,hC2⟩,?_⟩
    refine whichever_next 4 rfl (by kernel_rfl) (by rfl) ?_
    go_simp
    refine whichever_next 5 rfl (by kernel_rfl) (by rfl) ?_
    refine wpIn_append_lies (.tmp 4) (.tmp 8) 31 rfl base 9 i0 (.string ⟨#[]⟩) 1 16 Tryz.underlyingStrs hi hz0 hz1 hz2 rfl (by decide) v k (names.map encT) rfl (HO2.out.alloc _) ⟨w2.heap.size,0,none⟩ 1 1 [encT s] rfl rfl ?c0 ?c1 (by decide) ?c2 ?c3 ?c4 (w2.heap.size + 1) (by simp) ?_
    case c0 => exact World.news_of_block (World.alloc_heap_new _ _)
    case c1 => intro u hu;rw [List.mem_singleton.1 hu];rfl
    case c2 => unfold maxLen;omega
    case c3 => omega
    case c4 => simp;omega
    intro g cap w4 hown4 hg4 hcase hgl
    have hvA : some Ab ≠ v.ownBlock := fun e => (HV.out Ab e.symm).2 rfl
    have hA4 : w4.cell? ⟨Ab,0,none⟩ = some v := (hg4.cell_far ⟨Ab,0,none⟩ (by simp;omega) hvA).trans hA3
    have hAf4 : w4.frozen? ⟨Ab,0,none⟩ = false := (hg4.frozen_far ⟨Ab,0,none⟩ (by simp;omega) hvA).trans hAf3
    have hgA : g ≠ Ab := by
      rcases hcase with h | h
      · exact (HV.out g h).2
      · omega
    have hs4 : w2.heap.size + 1 <= w4.heap.size := by have := hg4.size;simpa using this
    have HO4 := Lib.hid hown4
    have HG4 := Lib.hid hg4
    have HCS := Lib.hid hcase
    clear hown4 hg4 hcase
    refine ⟨fun h => absurd (by simp) h,?_⟩
    refine whichever_next 6 rfl (by kernel_rfl) (by rfl) ?_
    go_simp
    refine whichever_end (by kernel_rfl) ?_
    go_end0
    rw [hr.out]
    refine ⟨rfl,?_,⟨_,World.cell?_setCell_same' _ _ _ (by rw [hA4];rfl),?_,?_⟩,(World.frozen?_setCell _ _ _ _).trans hAf4,HG4.out.os.trans HU3.out.os,HG4.out.tape.trans HU3.out.tape,HG4.out.output.trans HU3.out.output,by simp [World.setCell];omega,fun b h1 h2 h3 h4 => ?_⟩
    · refine (HR3.out.keep HG4.out.size (fun b hb' hk => HG4.out.block b hb' (fun e => ?_))).set hoffA
      have hv := (HV.out b e.symm).1
      rcases hk with e1 | ⟨hn,off,e1⟩
      · exact hv.1 e1
      · exact hv.2 (by rw [<- HFL.out];exact hn) off e1
    · rw [List.length_append,HK.out,List.map_append]
      exact HO4.out.kept (grown_set w4 ⟨Ab,0,none⟩ _) (.inr (fun e => by injection e with e;exact hgA e))
    · rcases HCS.out with h | h
      · exact .inl (by rw [h];rfl)
      · exact .inr (fun g' e => by have : g = g' := by simpa [Value.ownBlock] using e
                                   omega)
    · exact (Below.heap_setCell _ ⟨Ab,0,none⟩ _ b (by show b ≠ Ab;omega)).trans ((HG4.out.block b (by simp;omega) (fun e => h4 e.symm)).trans (HU3.out.keep b h1 h2))
end
section
open Go.RowKit
attribute [local go_sem] Oper.semAt_some
theorem readL_right {f : Nat -> Nat} {many : Int} (h : (readL f many).2 = 0) : rightB (readL f many).1 = true := by
 unfold readL at h ⊢
 split at h
 ·rename_i hc
  rw [if_pos hc]
  have := hc.2.2
  unfold isName at this
  rw [Bool.and_eq_true] at this
  exact this.1
 ·cases h
theorem nameP_right {fed : List Nat} {line : Nat} {l l' : List Nat} {s : List UInt8} (h : nameP fed line l = .val s l') : rightB s = true ∧ l'.length <= fed.length := by
 have hg := (Good.name line)
 obtain ⟨many,l1,h1,h2⟩ := bind_val h
 have hl1 := loadP_len h1
 obtain ⟨ws,l2,h3,h4⟩ := bind_val h2
 split at h4
 ·rename_i hc
  cases h4
  exact ⟨readL_right hc,(Good.loads 5 (line * 8 + 3) []).len fed l1 ws _ hl1 h3⟩
 ·cases h4
theorem all_long {xs : List (List UInt8)} (h : xs.all rightB = true) : ∀ x ∈ xs,x.length <= maxLen := fun x hx => by
 have := rightB_size (List.all_eq_true.1 h x hx)
 unfold maxLen
 omega
theorem sortedFresh (xs : List (List UInt8)) (A : Option Addr) (n c : Nat) (w : World) (hn : xs.length = n) (hm : n <= 100000) (h : RowAt w A (xs.map encT)) (hall : xs.all rightB = true) (m : Nat) (hl : (sortL xs).length = m) :
  Calls Tryz.prog 63 #[.slice A n c] w fun e w' => ∃ A' c',e = .returned (.tuple #[.slice A' m c',.int .i64 0]) ∧ Hid (m <= c' ∧ c' <= maxLen ∧ RowAt w' A' ((sortL xs).map encT) ∧ ∀ ad,A' = some ad -> w.heap.size <= ad.block) ∧ Below w.heap.size w w' := by
 refine (labelSorted_any xs A n c w hn hm (all_long hall) h).mono ?_
 rintro e w' ⟨hb,⟨h0,_⟩ | ⟨_,v,ys,rfl,hown,hr,hmem⟩⟩
 ·rw [hall] at h0;cases h0
 ·obtain rfl := sortL_is hr hmem
  rw [hl] at hown
  obtain ⟨A',c',rfl,h1,h2⟩ := owns_slice hown
  refine ⟨A',c',rfl,⟨h1,h2,row_of_own hown,fun ad e => ?_⟩,hb⟩
  rcases hown.2 with ⟨h3,_⟩ | ⟨g,cap,cur,h3,h4,_⟩
  ·cases h3;cases e
  ·cases h3;cases e;exact h4
variable {R : Nat} {FA : Option Addr} {nf cf : Nat} {fed ats : List Nat}
structure ListI (R : Nat) (FA : Option Addr) (nf cf : Nat) (fed : List Nat) (top : Nat) (W : World) (names : List (List UInt8)) (l : List Nat) (V : World) : Prop where
 rd : RuAt R FA nf cf fed l.length V
 ent : EntAt R (W.heap.size + 5) (W.heap.size + 5 + 1) (W.heap.size + 5 + 2) top (.func (.func 61) #[] #[.pointer (some ⟨W.heap.size + 4,0,none⟩),.pointer (some ⟨W.heap.size,0,none⟩)]) V
 len : l.length <= nf
 own : ∃ v,V.cell? ⟨W.heap.size + 4,0,none⟩ = some v ∧ V.ownsRow (W.heap.size + 10) 9 1 v names.length (names.map encT)
 frz : V.frozen? ⟨W.heap.size + 4,0,none⟩ = false
 box : V.cell? ⟨W.heap.size,0,none⟩ = some (.pointer (some ⟨R,0,none⟩))
 zer : CellsAt V (W.heap.size + 3) 6 (cellsR 0 0 0 0)
 all : names.all rightB = true
 ub : UB R W.heap.size W V
theorem ListI.step {top : Nat} {W V V' : World} {names : List (List UInt8)} {l l' : List Nat} (h : ListI R FA nf cf fed top W names l V) (h1 : RuAt R FA nf cf fed l'.length V') (h2 : UB R V.heap.size V V') (h3 : l'.length <= nf) (hs : W.heap.size + 10 <= V.heap.size) (hR : R < W.heap.size) : ListI R FA nf cf fed top W names l' V' := by
 obtain ⟨v,hv,ho⟩ := h.own
 exact ⟨h1,h.ent.ub h2 ⟨by omega,by omega⟩ ⟨by omega,by omega⟩ ⟨by omega,by omega⟩,h3,⟨v,(h2.cell (by omega) (by omega)).trans hv,ho.kept h2.grown (by
  cases hb : v.ownBlock with
  | none => exact .inl rfl
  | some g => exact .inr (fun e => by have := (ho.lt g hb).1;injection e with e;omega))⟩,(h2.frozen (by omega) (by omega)).trans h.frz,(h2.cell (by omega) (by omega)).trans h.box,h.zer.ub h2 (by omega) (by omega),h.all,h.ub.trans (h2.mono (by omega))⟩
theorem ListI.putObj {top : Nat} {W V : World} {names : List (List UInt8)} {l : List Nat} {b : Nat} {o : Obj} (h : ListI R FA nf cf fed top W names l V) (hO : ∀ b,W.heap.size <= b -> OffU R FA nf b) (hb : W.heap.size + 8 <= b) (hb2 : b < W.heap.size + 10) : ListI R FA nf cf fed top W names l (V.putObj b o) := by
 obtain ⟨v,hv,ho⟩ := h.own
 exact ⟨h.rd.putObj (hO b (by omega)),h.ent.putObj (by omega) (by omega) (by omega),h.len,⟨v,(putObj_cell _ _ _ _ _ (by omega)).trans hv,ho.kept (grownBy_putObj' V b o) (by
  cases hv : v.ownBlock with
  | none => exact .inl rfl
  | some g => exact .inr (fun e => by have := (ho.lt g hv).1;injection e with e;omega))⟩,(World.frozen?_of_block (w := V) (World.putObj_heap_other (by show W.heap.size + 4 ≠ b;omega))).trans h.frz,(putObj_cell _ _ _ _ _ (by omega)).trans h.box,h.zer.putObj (by omega),h.all,h.ub.putObj (by omega)⟩
theorem ListI.name {top : Nat} {W V V' : World} {names : List (List UInt8)} {s : List UInt8} {l l' : List Nat} {v : Value} (h : ListI R FA nf cf fed top W names l V) (hv : V.cell? ⟨W.heap.size + 4,0,none⟩ = some v) (ho : V.ownsRow (W.heap.size + 10) 9 1 v names.length (names.map encT)) (hs : W.heap.size + 10 <= V.heap.size) (hR : R < W.heap.size) (hr : rightB s = true) (hl : l'.length <= nf)
  (k : ListOne R FA nf cf fed (W.heap.size + 4) (W.heap.size + 10) v (names ++ [s]) l' V V') : ListI R FA nf cf fed top W (names ++ [s]) l' V' := by
 have hkeep : ∀ b,b < W.heap.size + 10 -> b ≠ R -> b ≠ W.heap.size + 4 -> V'.heap[b]? = V.heap[b]? := fun b h1 h2 h3 => k.keep b (by omega) h2 h3 (fun e => by have := (ho.lt b e).1;omega)
 have hc : ∀ b i,b < W.heap.size + 10 -> b ≠ R -> b ≠ W.heap.size + 4 -> V'.cell? ⟨b,i,none⟩ = V.cell? ⟨b,i,none⟩ := fun b i h1 h2 h3 => World.cell?_of_block (w := V) (hkeep b h1 h2 h3)
 obtain ⟨v',h1,h2,_⟩ := k.own
 refine ⟨k.rd,⟨(hc _ _ (by omega) (by omega) (by omega)).trans h.ent.1,(hc _ _ (by omega) (by omega) (by omega)).trans h.ent.2.1,(hc _ _ (by omega) (by omega) (by omega)).trans h.ent.2.2⟩,hl,⟨v',h1,h2⟩,k.frz,(hc _ _ (by omega) (by omega) (by omega)).trans h.box,
  ⟨fun i hi => (hc (W.heap.size + 3) i (by omega) (by omega) (by omega)).trans (h.zer.1 i hi),fun i => (World.frozen?_of_block (w := V) (hkeep (W.heap.size + 3) (by omega) (by omega) (by omega))).trans (h.zer.2 i)⟩,by rw [List.all_append,h.all];simp [hr],?_⟩
 exact h.ub.trans ⟨k.os,k.tape,k.output,k.size,fun b h1 h2 => hkeep b (by omega) h2 (by omega)⟩
theorem listE_dir {nd : Nat × Nat × Nat} (h : nd.1 = 2) : listE fed nd ats = (bucketsE namesE fed nd.2.2 7 0 [] ats).bind fun l ats => .val ⟨0,0,0,0,sortL l,[]⟩ ats := by
 unfold listE
 rw [if_pos h]
set_option maxRecDepth 100000 in
set_option maxHeartbeats 4000000 in
theorem llist_not (kd lk top : Nat) (hkd : kd ≠ 2) (k : Int) (p d : ByteArray) (a n : Int) (A : Option Addr) (m c : Nat) (W : World) (h : RuAt R FA nf cf fed ats.length W) :
  Calls Tryz.prog 35 #[.pointer (some ⟨R,0,none⟩),.agg #[.int .i64 kd,.int .i64 lk,.int .i64 top],opV k p d a n A m c] W (ReadsR R FA nf cf fed W (listE fed (kd,lk,top) ats)) := by
 have HE : Hid (listE fed (kd,lk,top) ats = .stop (.err 201) ats) := by rw [Hid,listE,if_neg hkd]
 have hk1 : ((kd : Int) == 2) = false := by rw [beq_eq_false_iff_ne];omega
 have HM := Lib.hid (fun b => lmust_any b 201)
 have HR := Lib.hid h
 clear h
 unfold opV
 go_enter Tryz.func35,Tryz.ntmps35
 go_wp2_with (go_at_call 37;refine (HM.out _ _).mono ?_;rintro e w' ⟨rfl,rfl⟩)
 have hb : Below W.heap.size W ((((W.alloc (.cells #[.pointer (some ⟨R,0,none⟩)] 58)).alloc (.cells #[.int .i64 kd,.int .i64 lk,.int .i64 top] 46)).alloc (.cells #[.int .i64 k,.string p,.string d,.int .i64 a,.int .i64 n,.slice A m c] 28)).alloc (.cells #[.int .i64 0,.int .i64 0,.int .i64 0,.int .i64 0,.slice none 0 0,.slice none 0 0] 33)) :=
  (((((Below.refl _ _).alloc (Nat.le_refl _) _).alloc (by simp) _).alloc (by simp;omega) _).alloc (by simp;omega) _)
 exact ⟨rfl,endsR_stop HE.out (HR.out.below hb) (UB.of_below hb)⟩
end
section
open Go.RowKit
attribute [local go_sem] Oper.semAt_some
variable {R : Nat} {FA : Option Addr} {nf cf : Nat} {fed ats : List Nat}
theorem chain_most (fed : List Nat) : ∀ (fuel line : Nat) (names names' : List (List UInt8)) (l l' : List Nat),chainE namesE fed fuel line names l = .val names' l' -> names'.length <= names.length + fuel
 | 0,line,names,names',l,l',h => by
  unfold chainE at h
  split at h
  ·cases h;omega
  ·cases h
 | fuel + 1,line,names,names',l,l',h => by
  unfold chainE at h
  split at h
  ·cases h;omega
  ·obtain ⟨n1,l1,h1,h2⟩ := bind_val h
   obtain ⟨x,l2,_,h3⟩ := bind_val h2
   obtain ⟨nx,l3,_,h4⟩ := bind_val h3
   obtain ⟨s,l4,_,h6⟩ := bind_val h1
   cases h6
   have := chain_most fed fuel nx _ _ _ _ h4
   rw [List.length_append] at this
   simp at this
   omega
theorem buckets_most (fed : List Nat) (top : Nat) : ∀ (n b : Nat) (names names' : List (List UInt8)) (l l' : List Nat),bucketsE namesE fed top n b names l = .val names' l' -> names'.length <= names.length + n * 1024
 | 0,b,names,names',l,l',h => by unfold bucketsE at h;cases h;omega
 | n + 1,b,names,names',l,l',h => by
  unfold bucketsE at h
  obtain ⟨x,l1,_,h2⟩ := bind_val h
  obtain ⟨line,l2,_,h3⟩ := bind_val h2
  obtain ⟨n1,l3,h4,h5⟩ := bind_val h3
  have h6 := chain_most fed _ _ _ _ _ _ h4
  have h7 := buckets_most fed top n (b + 1) _ _ _ _ h5
  omega
theorem RowAt.far {w w' : World} {A : Option Addr} {cs : List Value} {N : Nat} (h : RowAt w A cs) (hA : ∀ ad,A = some ad -> N <= ad.block) (hs : w.heap.size <= w'.heap.size) (hk : ∀ b i,N <= b -> w'.cell? ⟨b,i,none⟩ = w.cell? ⟨b,i,none⟩) : RowAt w' A cs := fun hn => by
 obtain ⟨b,off,e,hb',hc⟩ := h hn
 exact ⟨b,off,e,by omega,fun k u hu => (hk b _ (hA _ e)).trans (hc k u hu)⟩
def cellsL (A : Option Addr) (m c : Nat) : Nat -> Value
 | 0 => .int .i64 0
 | 1 => .int .i64 0
 | 2 => .int .i64 0
 | 3 => .int .i64 0
 | 4 => .slice A m c
 | _ => .slice none 0 0
def listW (W : World) (R : Nat) (k l t : Int) (c2 : Array Value) : World :=
 (lay4 W #[.pointer (some ⟨R,0,none⟩)] #[.int .i64 k,.int .i64 l,.int .i64 t] c2 #[.int .i64 0,.int .i64 0,.int .i64 0,.int .i64 0,.slice none 0 0,.slice none 0 0] 58 46 28 33).alloc (.cells #[.slice none 0 0] 31)
section
variable (W : World) (k l t : Int) (c2 : Array Value)
theorem listW_size : (listW W R k l t c2).heap.size = W.heap.size + 5 := by unfold listW;rw [World.size_alloc,lay4_size]
theorem listW_below : Below W.heap.size W (listW W R k l t c2) := by unfold listW;exact (lay4_below ..).alloc (by rw [lay4_size];omega) _
theorem listW_old : Below (W.heap.size + 4) (lay4 W #[.pointer (some ⟨R,0,none⟩)] #[.int .i64 k,.int .i64 l,.int .i64 t] c2 #[.int .i64 0,.int .i64 0,.int .i64 0,.int .i64 0,.slice none 0 0,.slice none 0 0] 58 46 28 33) (listW W R k l t c2) := by
 unfold listW;exact (Below.refl _ _).alloc (by rw [lay4_size];omega) _
theorem listW_box : (listW W R k l t c2).cell? ⟨W.heap.size,0,none⟩ = some (.pointer (some ⟨R,0,none⟩)) :=
 ((listW_old W k l t c2).cell (p := ⟨W.heap.size,0,none⟩) (by show W.heap.size < _;omega)).trans (lay4_0 _ _ _ _ _ _ _ _ _ 0 _ rfl)
theorem listW_top : (listW W R k l t c2).cell? ⟨W.heap.size + 1,2,none⟩ = some (.int .i64 t) :=
 ((listW_old W k l t c2).cell (p := ⟨W.heap.size + 1,2,none⟩) (by show W.heap.size + 1 < _;omega)).trans (lay4_1 _ _ _ _ _ _ _ _ _ 2 _ rfl)
theorem listW_zer : CellsAt (listW W R k l t c2) (W.heap.size + 3) 6 (cellsR 0 0 0 0) :=
 CellsAt.below (W := lay4 W #[.pointer (some ⟨R,0,none⟩)] #[.int .i64 k,.int .i64 l,.int .i64 t] c2 #[.int .i64 0,.int .i64 0,.int .i64 0,.int .i64 0,.slice none 0 0,.slice none 0 0] 58 46 28 33)
  ⟨fun i hi => match i,hi with | 0,_ => lay4_3 _ _ _ _ _ _ _ _ _ 0 _ rfl | 1,_ => lay4_3 _ _ _ _ _ _ _ _ _ 1 _ rfl | 2,_ => lay4_3 _ _ _ _ _ _ _ _ _ 2 _ rfl | 3,_ => lay4_3 _ _ _ _ _ _ _ _ _ 3 _ rfl | 4,_ => lay4_3 _ _ _ _ _ _ _ _ _ 4 _ rfl | 5,_ => lay4_3 _ _ _ _ _ _ _ _ _ 5 _ rfl,
  fun i => lay4_frozen _ _ _ _ _ _ _ _ _ _ i (by omega)⟩ (listW_old W k l t c2) (by omega)
theorem listW_all : (listW W R k l t c2).cell? ⟨W.heap.size + 4,0,none⟩ = some (.slice none 0 0) ∧ (listW W R k l t c2).frozen? ⟨W.heap.size + 4,0,none⟩ = false := by
 unfold listW
 have h := cell_new (lay4 W #[.pointer (some ⟨R,0,none⟩)] #[.int .i64 k,.int .i64 l,.int .i64 t] c2 #[.int .i64 0,.int .i64 0,.int .i64 0,.int .i64 0,.slice none 0 0,.slice none 0 0] 58 46 28 33) #[.slice none 0 0] 31 0 _ rfl
 rw [lay4_size] at h
 exact ⟨h,frozen_lay _ _ _ _ _ (lay4_frozen _ _ _ _ _ _ _ _ _ _ _ (by omega))⟩
end
set_option maxRecDepth 100000 in
set_option maxHeartbeats 8000000 in
theorem llist_dir (lk top : Nat) (k : Int) (p d : ByteArray) (a n : Int) (A : Option Addr) (m c : Nat) (W : World) (htop : top <= 100000) (hl : ats.length <= nf) (hnf : nf <= 20000) (hx64 : ∀ x ∈ fed,x < 18446744073709551616) (h : RuAt R FA nf cf fed ats.length W) :
  Calls Tryz.prog 35 #[.pointer (some ⟨R,0,none⟩),.agg #[.int .i64 (2 : Nat),.int .i64 lk,.int .i64 top],opV k p d a n A m c] W (ReadsR R FA nf cf fed W (listE fed (2,lk,top) ats)) := by
 have HE := Lib.hid (listE_dir (fed := fed) (ats := ats) (nd := (2,lk,top)) rfl)
 obtain ⟨W0,hW0⟩ : ∃ W0,listW W R 2 lk top #[.int .i64 k,.string p,.string d,.int .i64 a,.int .i64 n,.slice A m c] = W0 := ⟨_,rfl⟩
 have hb0 : Below W.heap.size W W0 := by rw [<- hW0];exact listW_below ..
 have hs0 : W0.heap.size = W.heap.size + 5 := by rw [<- hW0];exact listW_size ..
 have HZ : Hid (CellsAt W0 (W.heap.size + 3) 6 (cellsR 0 0 0 0)) := by rw [Hid,<- hW0];exact listW_zer ..
 have HBX : Hid (W0.cell? ⟨W.heap.size,0,none⟩ = some (.pointer (some ⟨R,0,none⟩))) := by rw [Hid,<- hW0];exact listW_box ..
 have htp : W0.cell? ⟨W.heap.size + 1,2,none⟩ = some (.int .i64 top) := by rw [<- hW0];exact listW_top ..
 have HAL : Hid (W0.cell? ⟨W.heap.size + 4,0,none⟩ = some (.slice none 0 0) ∧ W0.frozen? ⟨W.heap.size + 4,0,none⟩ = false) := by rw [Hid,<- hW0];exact listW_all ..
 have HR0 := Lib.hid (h.below hb0)
 have HOF := Lib.hid (fun b (hb : W.heap.size <= b) => h.off hb)
 have HU0 : Hid (UB R W.heap.size W W0) := UB.of_below hb0
 have HX := Lib.hid hx64
 have HM := Lib.hid (fun b => lmust_any b 201)
 have HFL := Lib.hid h.fedl
 have hRl := h.lt
 clear h hx64 hb0
 unfold listW lay4 at hW0
 have HW0 := Lib.hid hW0
 clear hW0
 unfold opV
 refine calls_of_wpB (f := 35) Tryz.func35 rfl ?_
 simp only [Tryz.ntmps35,List.size_toArray,List.length_cons,List.length_nil,Nat.reduceAdd,Nat.reduceSub,Array.replicate_succ,Array.replicate_zero,List.push_toArray,List.append_toArray,List.nil_append,List.cons_append]
 refine wpB_seq_k fun K hK => ?_
 go_wp2_with fail
 refine wpB_seq_k fun K hK => ?_
 go_wp2_with (go_at_call 37;refine (HM.out _ _).mono ?_;rintro e w' ⟨rfl,rfl⟩)
 refine wpB_seq_k fun K hK => ?_
 go_wp2_with fail
 refine wpB_seq ?_
 refine wpB_seq_k fun K hK => ?_
 have HEN := Lib.hid (fun W cap => lentries_any (R := R) top (.func 61) cap W)
 have hmf : ∀ (fn : Fn) (first cap : Array Value) (w : World),(Instr.makeFunc fn first cap).run Tryz.prog w = .ok (.func fn first cap) w := fun _ _ _ _ => rfl
 rw [HW0.out]
 have hbx := HBX.out
 go_wp2_with (go_at_call 59;refine (HEN.out _ _).mono ?_;rintro e w2 ⟨rfl,rfl⟩)
 refine wpB_block ?_
 obtain ⟨V,hV⟩ : ∃ V,entW W0 R top (.func (.func 61) #[] #[.pointer (some ⟨W.heap.size + 1 + 1 + 1 + 1,0,none⟩),.pointer (some ⟨W.heap.size,0,none⟩)]) = V := ⟨_,rfl⟩
 have hbV : Below W0.heap.size W0 V := by rw [<- hV];exact entW_below ..
 have hsV : V.heap.size = W.heap.size + 8 := by rw [<- hV,entW_size];omega
 have HEA : Hid (EntAt R (W.heap.size + 5) (W.heap.size + 5 + 1) (W.heap.size + 5 + 2) top (.func (.func 61) #[] #[.pointer (some ⟨W.heap.size + 4,0,none⟩),.pointer (some ⟨W.heap.size,0,none⟩)]) V) := by
  have := entW_at W0 R top (.func (.func 61) #[] #[.pointer (some ⟨W.heap.size + 1 + 1 + 1 + 1,0,none⟩),.pointer (some ⟨W.heap.size,0,none⟩)])
  rw [hs0,hV] at this
  exact this
 have HI0 : Hid (ListI R FA nf cf fed top W [] ats V) := by
  refine ⟨HR0.out.below hbV,HEA.out,hl,⟨_,(hbV.cell (p := ⟨W.heap.size + 4,0,none⟩) (by show W.heap.size + 4 < _;omega)).trans HAL.out.1,World.ownsRow_nil _ _ _ _⟩,(hbV.frozen (p := ⟨W.heap.size + 4,0,none⟩) (by show W.heap.size + 4 < _;omega)).trans HAL.out.2,(hbV.cell (p := ⟨W.heap.size,0,none⟩) (by show W.heap.size < _;omega)).trans HBX.out,HZ.out.below hbV (by omega),rfl,HU0.out.trans ((UB.of_below hbV).mono (by omega))⟩
 rw [hV]
 clear hV hbV HZ HU0 HW0 HEN HEA HBX HAL htp hbx HR0 hmf
 refine wpB_list (R := R) (FA := FA) (nf := nf) (cf := cf) (fed := fed) (ats := ats) (Rb := W.heap.size + 5) (Tb := W.heap.size + 5 + 1) (Eb := W.heap.size + 5 + 2) (top := top) (Ab := W.heap.size + 4) (Cb := W.heap.size) Tryz.func35 namesE (ListI R FA nf cf fed top W) (fun _ names l V => ListI R FA nf cf fed top W names l V) (fun o l V' => BehindU (α := Nat) R FA nf cf fed (.stop o l) V' ∧ UB R W.heap.size W V') [] List.length (fun line a1 l1 a2 l2 h => ?_) rfl htop hnf HX.out (by omega) ?_ ?_ ?_ ?_ ?_ ?_ ?_ ?_ ?_ ?_ ?_
 ·obtain ⟨s,l3,h1,h2⟩ := bind_val h
  cases h2
  rw [List.length_append];rfl
 ·intro names l V1 h
  exact ⟨h.rd,h.ent,h.len⟩
 ·intro names l l' V1 V2 hs h h1 h2 h3
  rw [hsV] at hs
  exact h.step h1 h2 h3 (by omega) hRl
 ·intro names l V1 b o h hb hb2 _
  rw [hsV] at hb hb2
  exact h.putObj HOF.out hb hb2
 ·intro names l o l' V1 V2 hs h h1 h2
  rw [hsV] at hs
  exact ⟨h1,h.ub.trans (h2.mono (by omega))⟩
 ·intro line many names l V1 hs hmu h
  have HI := Lib.hid h
  clear h hs hmu
  gi_wp2
  exact ⟨HI.out,Nat.le_refl _,fun _ _ _ => rfl⟩
 ·intro line names l V1 o h hb
  rw [hsV] at hb ⊢
  exact h.putObj HOF.out (by omega) (by omega)
 ·intro line names l V1 h
  exact h.ent.2.2
 ·intro line names l V1 h1 h2 h3 h4 h
  have h3' : names.length < 7168 := by simpa using h3
  rw [hsV] at h4 ⊢
  obtain ⟨v,hv,ho⟩ := h.own
  refine (listOne_any (W.heap.size + 4) W.heap.size line (W.heap.size + 10) v names V1 (by omega) h.len (by omega) HX.out h.rd hv h.frz h.box (by omega) (by omega) (HOF.out _ (by omega)) ho (fun g hg => ?_) (by omega) (by omega)).mono ?_
  ·have := (ho.lt g hg).1
   exact ⟨HOF.out _ (by omega),by omega⟩
  ·intro e V2 hp
   unfold namesE
   cases hr : nameP fed line l with
   | val s l2 =>
    rw [hr] at hp
    obtain ⟨rfl,hk⟩ := hp
    obtain ⟨h5,h6⟩ := nameP_right hr
    rw [HFL.out] at h6
    exact ⟨⟨rfl,h.name hv ho (by omega) hRl h5 h6 hk⟩,hk.size,fun b h7 h8 => hk.keep b (by omega) (by omega) (by omega) (fun e => by have := (ho.lt b e).1;omega)⟩
   | stop o l2 =>
    rw [hr] at hp
    obtain ⟨rfl,h5,h6⟩ := hp
    exact ⟨⟨rfl,h5,h.ub.trans (h6.mono (by omega))⟩,h6.size,fun b h7 h8 => h6.keep b (by omega) (by omega)⟩
 ·intro V1 hb
  have hI := HI0.out
  obtain ⟨v,hv,ho⟩ := hI.own
  rw [hsV] at hb
  exact ⟨hI.rd.below (by rw [hsV];exact hb),⟨(hb.cell (p := ⟨W.heap.size + 5,0,none⟩) (by show W.heap.size + 5 < _;omega)).trans hI.ent.1,(hb.cell (p := ⟨W.heap.size + 5 + 1,0,none⟩) (by show W.heap.size + 5 + 1 < _;omega)).trans hI.ent.2.1,(hb.cell (p := ⟨W.heap.size + 5 + 2,0,none⟩) (by show W.heap.size + 5 + 2 < _;omega)).trans hI.ent.2.2⟩,hl,⟨v,(hb.cell (p := ⟨W.heap.size + 4,0,none⟩) (by show W.heap.size + 4 < _;omega)).trans hv,owns_below ho (by rw [hsV];exact hb)⟩,(hb.frozen (p := ⟨W.heap.size + 4,0,none⟩) (by show W.heap.size + 4 < _;omega)).trans hI.frz,(hb.cell (p := ⟨W.heap.size,0,none⟩) (by show W.heap.size < _;omega)).trans hI.box,hI.zer.below hb (by omega),rfl,hI.ub.trans ((UB.of_below hb).mono (by omega))⟩
 ·intro names l V1 hq h hd
  have HRES : Hid (listE fed (2,lk,top) ats = .val ⟨0,0,0,0,sortL names,[]⟩ l) := by rw [Hid,HE.out,hq.out];rfl
  have hmost : names.length <= 100000 := by have := buckets_most _ _ _ _ _ _ _ _ hq.out;simp at this;omega
  obtain ⟨v,hv,ho⟩ := h.own
  obtain ⟨A1,c1,rfl,hc1,hc2⟩ := owns_slice ho
  obtain ⟨m1,hm1⟩ : ∃ m1,(sortL names).length = m1 := ⟨_,rfl⟩
  have HSO := Lib.hid (sortedFresh names A1 names.length c1 V1 rfl hmost (row_of_own ho) h.all m1 hm1)
  have HZ3 := Lib.hid h.zer
  have HR3 := Lib.hid h.rd
  have HU3 := Lib.hid h.ub
  have HD := Lib.hid hd
  obtain ⟨n0,hn0⟩ : ∃ n0,names.length = n0 := ⟨_,rfl⟩
  rw [hn0] at hv HSO
  have hsz : W.heap.size + 8 < V1.heap.size := by
   have := (Array.getElem?_eq_some_iff.1 hd).1
   omega
  clear h hd hq HE ho hc1 hc2
  have hva : V1.cell? ⟨W.heap.size + 1 + 1 + 1 + 1,0,none⟩ = some (.slice A1 n0 c1) := hv
  show WpB _ _ _ _ _ _
  refine wpB_of_wp ?_
  go_wp2_with (
   go_at_call 63
   refine (HSO.out).mono ?_
   rintro e w2 ⟨A2,c2,rfl,hrow,hb2⟩
   have HZ4 := Lib.hid (HZ3.out.below hb2 (by omega))
   have y0 := HZ4.out.2 0
   have y1 := HZ4.out.2 1
   have y2 := HZ4.out.2 2
   have y3 := HZ4.out.2 3
   have y4 := HZ4.out.2 4
   have y5 := HZ4.out.2 5
   have z0 := HZ4.out.1 0 (by omega)
   have z1 := HZ4.out.1 1 (by omega)
   have z2 := HZ4.out.1 2 (by omega)
   have z3 := HZ4.out.1 3 (by omega)
   have z4 := HZ4.out.1 4 (by omega)
   have z5 := HZ4.out.1 5 (by omega)
   unfold cellsR at z0 z1 z2 z3 z4 z5)
  obtain ⟨w4,hw4⟩ : ∃ w4,putTo w2 (W.heap.size + 1 + 1 + 1) (cellsL A2 m1 c2) 6 = w4 := ⟨_,rfl⟩
  have HC4 : CellsAt w4 (W.heap.size + 1 + 1 + 1) 6 (cellsL A2 m1 c2) := by rw [<- hw4];exact putTo_all HZ4.out
  have HR4 := ((HR3.out.below hb2).putTo (f := cellsL A2 m1 c2) (HOF.out (W.heap.size + 1 + 1 + 1) (by omega)) 6)
  have HU4 := ((HU3.out.trans ((UB.of_below hb2).mono (by omega))).putTo (f := cellsL A2 m1 c2) (show W.heap.size <= W.heap.size + 1 + 1 + 1 by omega) 6)
  rw [hw4] at HR4 HU4
  have HD4 : w4.heap[V.heap.size]? = some (.deferred (some [])) := by
   rw [<- hw4]
   exact (putTo_heap (by omega) 6).trans ((hb2.block _ (by omega)).trans HD.out)
  have hrow4 : RowAt (w4.putObj V.heap.size (.deferred none)) A2 ((sortL names).map encT) := by
   refine hrow.2.2.1.far hrow.2.2.2 ?_ (fun b i hb => ?_)
   ·rw [<- hw4];simp [World.putObj,putTo_size]
   ·rw [putObj_cell _ _ _ _ _ (by omega),<- hw4];exact putTo_other (by omega) 6
  have hw5 := hw4
  unfold putTo putTo putTo putTo putTo putTo putTo cellsL at hw5
  simp only at hw5
  rw [hw5]
  clear hw5 hw4
  have HC5 := HC4.putObj (B := V.heap.size) (o := .deferred none) (by omega)
  have g0 := HC5.1 0 (by omega)
  have g1 := HC5.1 1 (by omega)
  have g2 := HC5.1 2 (by omega)
  have g3 := HC5.1 3 (by omega)
  have g4 := HC5.1 4 (by omega)
  have g5 := HC5.1 5 (by omega)
  unfold cellsL at g0 g1 g2 g3 g4 g5
  rw [<- hsV]
  refine ret_mark (v := .agg #[.int .i64 0,.int .i64 0,.int .i64 0,.int .i64 0,.slice A2 m1 c2,.slice none 0 0]) HD4 (by simp [results,Tryz.results35,go_sem,g0,g1,g2,g3,g4,g5]) ?_
  exact endsR_val HRES.out ⟨A2,m1,c2,none,0,0,rfl,hm1,rfl,hrow.1,Nat.le_refl _,(by simp [maxLen]),hrow.2.1,hrow4,RowAt.nil,fun ad e => by have := hrow.2.2.2 ad e;have := HU3.out.size;omega,(fun _ e => by cases e)⟩ (HR4.putObj (HOF.out _ (by omega))) (HU4.putObj (by omega))
 ·intro o l V1 hq h hd
  refine panic_mark hd ?_
  exact endsR_stop (by rw [HE.out,hq.out];rfl) (behindU_putObj h.1 (HOF.out _ (by omega))) (h.2.putObj (by omega))
end
end Go.Proofs.YtdpooagnbmpinaaGreatDoor
