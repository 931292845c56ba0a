import Derived.Test.YtdpooagnbmpinaaGreatDoorZJE
import Derived.Test.YtdpooagnbmpinaaGreatDoorZFD
import Derived.Test.YtdpooagnbmpinaaGreatDoorZM5
import Derived.Maps.AppendAt
namespace Go.Proofs.YtdpooagnbmpinaaGreatDoor
section
open Go.RowKit
attribute [local go_sem] Oper.semAt_some
theorem fails22_any (c : Int) (W : World) : Calls Tryz.prog 41 #[.int .i64 c] W fun e W' => e = .returned (.agg #[.int .i64 c,.int .i64 0,.int .i64 0,.int .i64 0,.slice none 0 0,.slice none 0 0]) ∧ Below W.heap.size W W' := by
 go_enter Tryz.func41,Tryz.ntmps41
 go_wp2
 exact bodyPost_ret (v := .agg #[.int .i64 c,.int .i64 0,.int .i64 0,.int .i64 0,.slice none 0 0,.slice none 0 0]) (by simp [results,Tryz.results41,go_sem]) rfl ⟨rfl,(Below.refl _ _).alloc (Nat.le_refl _) _⟩
section
variable {R : Nat} {FA : Option Addr} {nf cf : Nat} {fed ats : List Nat} {st : RSt} {W W' : World}
def OffR (R : Nat) (W : World) (v : Value) : Prop := ∀ b,v.ownBlock = some b -> FreeAt R W b
theorem own_rb {base size n : Nat} {e : TypeId} {v : Value} {xs : List Value} (h : W.ownsRow base e size v n xs) (hf : OffR R W v) (k : RB R W.heap.size W W') : W'.ownsRow base e size v n xs ∧ OffR R W' v := by
 refine ⟨⟨h.1,?_⟩,fun b hb => (k.keep b (h.lt b hb).2 (hf b hb)).2⟩
 rcases h.2 with h2 | ⟨g,cap,cur,rfl,h4,hg,h5⟩
 ·exact .inl h2
 ·exact .inr ⟨g,cap,cur,rfl,h4,(k.keep g (Array.getElem?_eq_some_iff.1 hg).1 (hf g rfl)).1.trans hg,h5⟩
theorem free_grown {row : Option Nat} {b : Nat} (hg : W.grownBy W' row) (hR : some R ≠ row) (hlt : R < W.heap.size) (hf : FreeAt R W b) : FreeAt R W' b :=
 ⟨hf.1,fun v hv => hf.2 v (by rwa [World.cell?_of_block (w := W) (a := ⟨R,1,none⟩) (hg.block R hlt hR)] at hv)⟩
theorem rf_grown {row : Option Nat} (h : RfAt R FA nf cf fed st W) (hg : W.grownBy W' row) (hrow : ∀ b,row = some b -> FreeAt R W b ∧ R < b) : RfAt R FA nf cf fed st W' := by
 have hR : some R ≠ row := fun e => (hrow R e.symm).1.1 rfl
 have hc : ∀ i,W'.cell? ⟨R,i,none⟩ = W.cell? ⟨R,i,none⟩ := fun i => World.cell?_of_block (w := W) (a := ⟨R,i,none⟩) (hg.block R h.rd.lt hR)
 have hz : ∀ i,W'.frozen? ⟨R,i,none⟩ = W.frozen? ⟨R,i,none⟩ := fun i => World.frozen?_of_block (w := W) (a := ⟨R,i,none⟩) (hg.block R h.rd.lt hR)
 obtain ⟨v,hv,ho⟩ := h.rd.atsv
 refine ⟨⟨Nat.lt_of_lt_of_le h.rd.lt hg.size,(hc 0).trans h.rd.fedc,h.rd.fedl,fun hn => ?_,h.rd.feda,⟨v,(hc 1).trans hv,ho.kept hg ?_⟩,(hz 1).trans h.rd.frz⟩,(hc 2).trans h.mo,(hz 2).trans h.fz⟩
 ·obtain ⟨b,off,e,hb,hcl⟩ := h.rd.fedr hn
  have hbR := h.rd.feda (by rw [List.length_map] at hn;exact hn) b off e
  refine ⟨b,off,e,Nat.lt_of_lt_of_le hb hg.size,fun k u hu => (World.cell?_of_block (w := W) (a := ⟨b,off + k,none⟩) (hg.block b hb (fun e' => ?_))).trans (hcl k u hu)⟩
  have := (hrow b e'.symm).2
  omega
 ·cases hv' : v.ownBlock with
  | none => exact .inl rfl
  | some g => exact .inr fun e => (hrow g e.symm).1.2 v hv hv'
theorem rb_grown {B : Nat} {W0 : World} {row : Option Nat} (h : RB R B W0 W) (hg : W.grownBy W' row) (hB : B <= W.heap.size) (hlt : R < W.heap.size) (hrow : ∀ b,row = some b -> B <= b ∧ b ≠ R) : RB R B W0 W' := by
 have hR : some R ≠ row := fun e => (hrow R e.symm).2 rfl
 refine ⟨hg.os.trans h.os,hg.tape.trans h.tape,hg.output.trans h.output,Nat.le_trans h.size hg.size,fun b hb hf => ?_⟩
 obtain ⟨h1,h2⟩ := h.keep b hb hf
 exact ⟨(hg.block b (by omega) (fun e => by have := (hrow b e.symm).1;omega)).trans h1,free_grown hg hR hlt h2⟩
theorem free_fresh {row : Option Nat} (h : RfAt R FA nf cf fed st W) (hg : W.grownBy W' row) (hrow : ∀ b,row = some b -> FreeAt R W b ∧ R < b) : FreeAt R W' W.heap.size := by
 obtain ⟨v,hv,ho⟩ := h.rd.atsv
 have hR : some R ≠ row := fun e => (hrow R e.symm).1.1 rfl
 refine ⟨by have := h.rd.lt;omega,fun u hu e => ?_⟩
 rw [World.cell?_of_block (w := W) (a := ⟨R,1,none⟩) (hg.block R h.rd.lt hR),hv] at hu
 cases hu
 have := (ho.lt _ e).2
 omega
theorem append_beside {B base n : Nat} {e : TypeId} {v v' : Value} {xs ys : List Value} {W0 : World} {m : Nat} (hrf : RfAt R FA nf cf fed st W) (hrb : RB R B W0 W) (hB : B <= W.heap.size) (hBR : R < B) (hbase : B <= base)
  (h : W.ownsRow base e 1 v n xs) (hf : OffR R W v) (h' : W'.ownsRow base e 1 v' m ys) (hg : W.grownBy W' v.ownBlock) (hat : v'.ownBlock = v.ownBlock ∨ v'.ownBlock = some W.heap.size) :
  RfAt R FA nf cf fed st W' ∧ RB R B W0 W' ∧ OffR R W' v' := by
 have hrow : ∀ b,v.ownBlock = some b -> FreeAt R W b ∧ R < b := fun b hb => ⟨hf b hb,by have := (h.lt b hb).1;omega⟩
 have hR : some R ≠ v.ownBlock := fun e => (hrow R e.symm).1.1 rfl
 refine ⟨rf_grown hrf hg hrow,rb_grown hrb hg hB hrf.rd.lt (fun b hb => ⟨by have := (h.lt b hb).1;omega,(hrow b hb).1.1⟩),fun b hb => ?_⟩
 rcases hat with e | e
 ·rw [e] at hb
  exact free_grown hg hR hrf.rd.lt (hf b hb)
 ·rw [e] at hb
  cases hb
  exact free_fresh hrf hg hrow
theorem other_beside {base n nz : Nat} {e T : TypeId} {v z : Value} {xs zs : List Value} (hrf : RfAt R FA nf cf fed st W) (h : W.ownsRow base e 1 v n xs) (hf : OffR R W v) (hlt : R < base) (hz : W.ownsRow base T 1 z nz zs) (hzf : OffR R W z) (hne : T ≠ e) (hg : W.grownBy W' v.ownBlock) :
  W'.ownsRow base T 1 z nz zs ∧ OffR R W' z := by
 have hrow : ∀ b,v.ownBlock = some b -> FreeAt R W b ∧ R < b := fun b hb => ⟨hf b hb,by have := (h.lt b hb).1;omega⟩
 have hR : some R ≠ v.ownBlock := fun e => (hrow R e.symm).1.1 rfl
 refine ⟨hz.kept hg ?_,fun b hb => free_grown hg hR hrf.rd.lt (hzf b hb)⟩
 rcases hz.2 with ⟨rfl,_⟩ | ⟨g,cap,cur,rfl,_,hg',_⟩
 ·exact .inl rfl
 ·refine .inr fun e' => ?_
  rcases h.2 with ⟨rfl,_⟩ | ⟨g2,cap2,cur2,rfl,_,hg2,_⟩
  ·simp [Value.ownBlock] at e'
  ·simp only [Value.ownBlock,Option.some.injEq] at e'
   subst e'
   rw [hg'] at hg2
   injection hg2 with hg2
   injection hg2 with _ hT
   exact hne hT
set_option maxRecDepth 100000 in
set_option maxHeartbeats 2000000 in
theorem sizeR_any (top : Nat) (htop : top < 1024) (hl : st.1.length <= 90000) (hnf : nf <= 100000) (hx64 : ∀ x ∈ fed,x < 18446744073709551616) (h : RfAt R FA nf cf fed st W) :
  Calls Tryz.prog 72 #[.pointer (some ⟨R,0,none⟩),.int .i64 top] W fun e W' => e = .returned (.tuple #[.int .i64 (sizeR fed top st).1.1,.bool (sizeR fed top st).1.2]) ∧ RfAt R FA nf cf fed (sizeR fed top st).2 W' ∧ RB R W.heap.size W W' := by
 have HL := Lib.hid (loadR_any (top * 8) (8 * (top : Int)) W (by omega) (by omega) hnf hx64 h)
 have hx := loadR_lt hx64 (top * 8) st
 unfold sizeR
 generalize loadR fed (top * 8) st = r1 at *
 obtain ⟨x,st1⟩ := r1
 simp only at HL hx ⊢
 have ht0 : (0 : Int) <= 8 * (top : Int) := by omega
 have ht1 : 8 * (top : Int) <= 8192 := by omega
 obtain ⟨m,hm⟩ : ∃ m : Nat,min x 999 = m := ⟨_,rfl⟩
 have hmi : min (x : Int) 999 = (m : Int) := by omega
 have hm9 : (m : Int) <= 999 := by omega
 have hm0 : (0 : Int) <= (m : Int) := by omega
 rw [hm]
 clear hm h hx64
 by_cases hx4 : x <= 448
 ·have hd : decide ((x : Int) <= 448) = true := decide_eq_true (by omega)
  rw [decide_eq_true hx4]
  go_enter Tryz.func72,Tryz.ntmps72
  go_wp2_with (go_at_call 75;refine HL.out.mono ?_;rintro e w1 ⟨rfl,h1,hb1⟩)
  go_ret2
  exact ⟨rfl,h1,hb1⟩
 ·have hd : decide ((x : Int) <= 448) = false := decide_eq_false (by omega)
  rw [decide_eq_false hx4]
  go_enter Tryz.func72,Tryz.ntmps72
  go_wp2_with (go_at_call 75;refine HL.out.mono ?_;rintro e w1 ⟨rfl,h1,hb1⟩)
  go_ret2
  exact ⟨rfl,h1,hb1⟩
end
end
end Go.Proofs.YtdpooagnbmpinaaGreatDoor
