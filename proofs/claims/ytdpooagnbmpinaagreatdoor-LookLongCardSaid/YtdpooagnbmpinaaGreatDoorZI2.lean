import Derived.Test.YtdpooagnbmpinaaGreatDoorZI0
import Derived.Test.YtdpooagnbmpinaaGreatDoorZGX
namespace Go.Proofs.YtdpooagnbmpinaaGreatDoor
section
open Go.RowKit
abbrev RSt := List Nat × Bool
def loadR (fed : List Nat) (p : Nat) (st : RSt) : Nat × RSt :=
 if st.2 then (0,st) else match fed[st.1.length]? with
  | some x => (x,(st.1 ++ [p],false))
  | none => (0,(st.1 ++ [p],true))
theorem loadR_more (fed : List Nat) (p : Nat) (l : List Nat) : loadR fed p (l,true) = (0,(l,true)) := rfl
theorem loadR_lt {fed : List Nat} (hx : ∀ x ∈ fed,x < 18446744073709551616) (p : Nat) (st : RSt) : (loadR fed p st).1 < 18446744073709551616 := by
 unfold loadR
 split
 ·show 0 < _;omega
 ·split
  ·rename_i x h
   exact hx x (List.mem_of_getElem? h)
  ·show 0 < _;omega
theorem loadR_len (fed : List Nat) (p : Nat) (st : RSt) : (loadR fed p st).2.1.length <= st.1.length + 1 := by
 unfold loadR
 split
 ·simp
 ·split <;> simp
structure RfAt (R : Nat) (FA : Option Addr) (nf cf : Nat) (fed : List Nat) (st : RSt) (W : World) : Prop where
 rd : RdAt R FA nf cf fed st.1 W
 mo : W.cell? ⟨R,2,none⟩ = some (.bool st.2)
 fz : W.frozen? ⟨R,2,none⟩ = false
variable {R : Nat} {FA : Option Addr} {nf cf : Nat} {fed : List Nat} {st : RSt} {W W' : World}
theorem RfAt.below (h : RfAt R FA nf cf fed st W) (hb : Below W.heap.size W W') : RfAt R FA nf cf fed st W' :=
 ⟨h.rd.below hb,(hb.cell (p := ⟨R,2,none⟩) h.rd.lt).trans h.mo,(hb.frozen (p := ⟨R,2,none⟩) h.rd.lt).trans h.fz⟩
theorem RfAt.drew' (h : RfAt R FA nf cf fed st W) : RfAt R FA nf cf fed st { W with drawn := W.drawn + 1 } := h.below ((Below.refl _ W).drew)
theorem RfAt.set {B i : Nat} {v : Value} (h : RfAt R FA nf cf fed st W) (hf : FreeAt R W B) (hR : R <= B := by omega) : RfAt R FA nf cf fed st (W.setCell ⟨B,i,none⟩ v) :=
 ⟨h.rd.set hf hR,(World.cell?_setCell_other _ _ _ _ (by intro e;injection e with e;exact hf.1 e)).trans h.mo,(World.frozen?_setCell _ _ _ _).trans h.fz⟩
theorem RfAt.putTo {X : Nat} {f : Nat -> Value} (h : RfAt R FA nf cf fed st W) (hf : FreeAt R W X) (hR : R <= X) : ∀ m,RfAt R FA nf cf fed st (putTo W X f m)
 | 0 => h
 | m + 1 => (RfAt.putTo h hf hR m).set (hf.putTo hf.1 m) hR
theorem RfAt.mark (h : RfAt R FA nf cf fed st W) (m : Bool) : RfAt R FA nf cf fed (st.1,m) (W.setCell ⟨R,2,none⟩ (.bool m)) := by
 obtain ⟨v,hv,ho⟩ := h.rd.atsv
 have hb : ∀ k,k ≠ R -> (W.setCell ⟨R,2,none⟩ (.bool m)).heap[k]? = W.heap[k]? := fun k hk => Below.heap_setCell W ⟨R,2,none⟩ (.bool m) k hk
 have hc : ∀ i,i ≠ 2 -> (W.setCell ⟨R,2,none⟩ (.bool m)).cell? ⟨R,i,none⟩ = W.cell? ⟨R,i,none⟩ := fun i hi => World.cell?_setCell_other _ _ _ _ (by intro e;injection e with _ e;exact hi e.symm)
 refine ⟨⟨by simpa [World.setCell] using h.rd.lt,(hc 0 (by omega)).trans h.rd.fedc,h.rd.fedl,fun hn => ?_,h.rd.feda,⟨v,(hc 1 (by omega)).trans hv,ho.kept (grown_set W ⟨R,2,none⟩ _) (.inr fun e => ?_)⟩,(World.frozen?_setCell _ _ _ _).trans h.rd.frz⟩,World.cell?_setCell_same' _ _ _ (by rw [h.mo];rfl),(World.frozen?_setCell _ _ _ _).trans h.fz⟩
 ·obtain ⟨b,off,e,hb',hcl⟩ := h.rd.fedr hn
  have hbR := h.rd.feda (by rw [List.length_map] at hn;exact hn) b off e
  exact ⟨b,off,e,by simpa [World.setCell] using hb',fun k u hu => (World.cell?_of_block (a := ⟨b,off + k,none⟩) (hb b (by omega))).trans (hcl k u hu)⟩
 ·have e' : v.ownBlock = some R := e
  have := (ho.lt R e').1
  omega
theorem RB.mark (R B : Nat) (W : World) (v : Value) : RB R B W (W.setCell ⟨R,2,none⟩ v) :=
 ⟨rfl,rfl,rfl,by simp [World.setCell],fun b _ hf => ⟨Below.heap_setCell W ⟨R,2,none⟩ v b hf.1,hf.1,fun u hu => hf.2 u (by rwa [World.cell?_setCell_other _ _ _ _ (by intro e;injection e with _ e;cases e)] at hu)⟩⟩
set_option maxRecDepth 100000 in
set_option maxHeartbeats 3000000 in
theorem loadR_any (p : Nat) (q : Int) (W : World) (hq : q = (p : Int)) (hl : st.1.length <= 100000) (hnf : nf <= 100000) (hx64 : ∀ x ∈ fed,x < 18446744073709551616) (h : RfAt R FA nf cf fed st W) :
  Calls Tryz.prog 75 #[.pointer (some ⟨R,0,none⟩),.int .i64 q] W fun e W' => e = .returned (.int .u64 (loadR fed p st).1) ∧ RfAt R FA nf cf fed (loadR fed p st).2 W' ∧ RB R W.heap.size W W' := by
 subst hq
 obtain ⟨ats,mo⟩ := st
 cases mo
 ·obtain ⟨i0,hi,hz0,hz1,hz2⟩ := info_parts Tryz.infoInt
  have hmo := h.mo
  have hfm := h.fz
  have HL : Hid (loadR fed p (ats,false) = match fed[ats.length]? with | some x => (x,(ats ++ [p],false)) | none => (0,(ats ++ [p],true))) := rfl
  obtain ⟨v,hv,hown⟩ := h.rd.atsv
  have hfr := h.rd.frz
  have hR := h.rd.lt
  have HRD := Lib.hid h.rd
  have HO := Lib.hid hown
  have HLT := Lib.hid hown.lt
  have HX := Lib.hid hx64
  obtain ⟨m,hm⟩ : ∃ m,ats.length = m := ⟨_,rfl⟩
  have HM := Lib.hid hm
  simp only at hl hmo hv hown HRD HO HLT
  rw [hm] at hl HO HL
  have H1 : Hid (∀ u ∈ [encI p],u.oneCell' = true) := fun u hu => by rw [List.mem_singleton.1 hu];rfl
  clear h hown hx64 hm
  go_enter Tryz.func75,Tryz.ntmps75
  go_wp2_with (at_builtin;refine wpList_append_lies _ rfl (.tmp 13) (.tmp 15) 72 rfl (R + 1) 3 i0 (.int .i64 0) 1 8 Tryz.underlying72 hi hz0 hz1 hz2 rfl (by decide) v m (ats.map encI) rfl (HO.out.alloc _) ⟨W.heap.size,0,none⟩ 1 1 [encI p] rfl rfl ?c0 H1.out (by decide) ?c1 ?c2 ?c3 (W.heap.size + 1) (by simp) ?_)
  case c0 => exact World.news_of_block (World.alloc_heap_new _ _)
  case c1 => unfold maxLen;omega
  case c2 => omega
  case c3 => simp;omega
  intro g cap w2 hown2 hg2 hcase hgl
  have hne : some R ≠ v.ownBlock := fun e => by have := (HLT.out R e.symm).1;omega
  have hW1 : Below W.heap.size W (W.alloc (.cells #[encI p] 3)) := (Below.refl _ _).alloc (Nat.le_refl _) _
  have hsz2 : W.heap.size + 1 <= w2.heap.size := by have := hg2.size;simp at this;exact this
  have hc1 : w2.cell? ⟨R,1,none⟩ = some v := (hg2.cell_far ⟨R,1,none⟩ (by simp;omega) hne).trans ((hW1.cell (p := ⟨R,1,none⟩) hR).trans hv)
  have hf1 : w2.frozen? ⟨R,1,none⟩ = false := (hg2.frozen_far ⟨R,1,none⟩ (by simp;omega) hne).trans ((hW1.frozen (p := ⟨R,1,none⟩) hR).trans hfr)
  have hf2 : w2.frozen? ⟨R,2,none⟩ = false := (hg2.frozen_far ⟨R,2,none⟩ (by simp;omega) hne).trans ((hW1.frozen (p := ⟨R,2,none⟩) hR).trans hfm)
  obtain ⟨w3,hw3⟩ : ∃ w3,w2.setCell ⟨R,1,none⟩ (.slice (some ⟨g,0,none⟩) (m + 1) cap) = w3 := ⟨_,rfl⟩
  have hc0 : w3.cell? ⟨R,0,none⟩ = some (.slice FA nf cf) := by
   rw [<- hw3,World.cell?_setCell_other _ _ _ _ (by intro e;cases e)]
   exact (hg2.cell_far ⟨R,0,none⟩ (by simp;omega) hne).trans ((hW1.cell (p := ⟨R,0,none⟩) hR).trans HRD.out.fedc)
  have hc2 : w3.cell? ⟨R,2,none⟩ = some (.bool false) := by
   rw [<- hw3,World.cell?_setCell_other _ _ _ _ (by intro e;cases e)]
   exact (hg2.cell_far ⟨R,2,none⟩ (by simp;omega) hne).trans ((hW1.cell (p := ⟨R,2,none⟩) hR).trans hmo)
  have hf2' : w3.frozen? ⟨R,2,none⟩ = false := by rw [<- hw3];exact (World.frozen?_setCell _ _ _ _).trans hf2
  have hgR : R + 1 <= g := (hown2.lt g rfl).1
  have hc1' : w3.cell? ⟨R,1,none⟩ = some (.slice (some ⟨g,0,none⟩) (m + 1) cap) := by rw [<- hw3];exact World.cell?_setCell_same' _ _ _ (by rw [hc1];rfl)
  have hf1' : w3.frozen? ⟨R,1,none⟩ = false := by rw [<- hw3];exact (World.frozen?_setCell _ _ _ _).trans hf1
  have HO3 : Hid (w3.ownsRow (R + 1) 3 1 (.slice (some ⟨g,0,none⟩) (m + 1) cap) (m + 1) ((ats ++ [p]).map encI)) := by
   rw [Hid,<- hw3,List.map_append]
   exact hown2.kept (grown_set w2 ⟨R,1,none⟩ _) (.inr (fun e => by injection e with e;have : g = R := e;omega))
  have hblk : ∀ k,k < W.heap.size -> k ≠ R -> v.ownBlock ≠ some k -> w3.heap[k]? = W.heap[k]? := fun k hk h1 h2 => by
   rw [<- hw3]
   exact (Below.heap_setCell _ _ _ k h1).trans ((hg2.block k (by simp;omega) (fun e => h2 e.symm)).trans (hW1.block k hk))
  have HB3 : Hid (RB R W.heap.size W w3) :=
   ⟨by rw [<- hw3];exact hg2.os,by rw [<- hw3];exact hg2.tape,by rw [<- hw3];exact hg2.output,by rw [<- hw3];simp [World.setCell];omega,fun b hb hf => ⟨hblk b hb hf.1 (hf.2 v hv),hf.1,fun u hu e => by
    rw [hc1'] at hu
    cases hu
    have e : g = b := by simpa [Value.ownBlock] using e
    subst e
    rcases hcase with h | h
    ·exact hf.2 v hv h
    ·omega⟩⟩
  have hsz3 : W.heap.size <= w3.heap.size := HB3.out.size
  have HR3 : Hid (RdAt R FA nf cf fed (ats ++ [p]) w3) := by
   refine ⟨Nat.lt_of_lt_of_le hR hsz3,hc0,HRD.out.fedl,fun hn => ?_,HRD.out.feda,⟨_,hc1',?_⟩,hf1'⟩
   ·obtain ⟨b,off,e,hb,hc⟩ := HRD.out.fedr hn
    have hbR := HRD.out.feda (by rw [List.length_map] at hn;exact hn) b off e
    exact ⟨b,off,e,Nat.lt_of_lt_of_le hb hsz3,fun k u hu => (World.cell?_of_block (w := W) (hblk b hb (by omega) (fun e => by have := (HLT.out b e).1;omega))).trans (hc k u hu)⟩
   ·rw [List.length_append,HM.out];exact HO3.out
  have HF3 : Hid (RfAt R FA nf cf fed (ats ++ [p],false) w3) := ⟨HR3.out,hc2,hf2'⟩
  clear hown2 hg2 hcase hgl hW1 hblk
  have h0m : (0 : Int) <= (m : Int) := Int.natCast_nonneg _
  by_cases hlt : m < nf
  ·have hmf : m < fed.length := by rw [HRD.out.fedl];exact hlt
   have HGE : Hid (loadR fed p (ats,false) = (fed[m],(ats ++ [p],false))) := by rw [Hid,HL.out,List.getElem?_eq_getElem hmf]
   obtain ⟨b,off,rfl,hbw,hcx⟩ := HR3.out.fedr.get (k := m) (u := encW fed[m]) (by rw [List.getElem?_map,List.getElem?_eq_getElem hmf];rfl)
   generalize fed[m] = x at hcx HGE
   unfold encW at hcx
   have hgt : decide ((nf : Int) < (m : Int) + 1) = false := by simp;omega
   have hadd : IntKind.i64.wrap (m : Int) = (m : Int) := IntWalk.i64_in _ (by omega)
   have hmn : (m : Int) < (nf : Int) := by omega
   go_wp2_with fail
   refine box_region (by kernel_rfl) (by kernel_rfl) ?_
   iterate 11
    refine box_step (fun K hK => ?_)
    go_simp
    refine hK _ ?_
    clear hK K
   refine ⟨wpStill_nil ?_⟩
   go_wp2_with fail
   obtain ⟨wd,hwd⟩ : ∃ wd,w3.drew = wd := ⟨_,rfl⟩
   have hc0 : wd.cell? ⟨R,0,none⟩ = some (.slice (some ⟨b,off,none⟩) nf cf) := hwd ▸ hc0
   have hc1' : wd.cell? ⟨R,1,none⟩ = some (.slice (some ⟨g,0,none⟩) (m + 1) cap) := hwd ▸ hc1'
   have hcx : wd.cell? ⟨b,off + m,none⟩ = some (.int .u64 x) := hwd ▸ hcx
   have HF4 : Hid (RfAt R (some ⟨b,off,none⟩) nf cf fed (ats ++ [p],false) wd) := hwd ▸ HF3.out.drew'
   have HB4 : Hid (RB R W.heap.size W wd) := hwd ▸ HB3.out.trans (RB.drew' _ _ _)
   rw [show ({ w3 with drawn := w3.drawn + 1 } : World) = wd from hwd]
   clear hwd
   refine box_region (by kernel_rfl) (by kernel_rfl) ?_
   iterate 13
    refine box_step (fun K hK => ?_)
    go_simp
    refine hK _ ?_
    clear hK K
   refine ⟨wpStill_nil ?_⟩
   go_wp2_with fail
   go_ret
   rw [HGE.out]
   exact ⟨rfl,HF4.out.drew',HB4.out.trans (RB.drew' _ _ _)⟩
  ·have HGE : Hid (loadR fed p (ats,false) = (0,(ats ++ [p],true))) := by rw [Hid,HL.out,List.getElem?_eq_none (by rw [HRD.out.fedl];omega)]
   have hgt : decide ((nf : Int) < (m : Int) + 1) = true := by simp;omega
   go_wp2_with fail
   refine box_region (by kernel_rfl) (by kernel_rfl) ?_
   iterate 11
    refine box_step (fun K hK => ?_)
    go_simp
    refine hK _ ?_
    clear hK K
   refine ⟨wpStill_nil ?_⟩
   go_wp2_with fail
   go_ret
   rw [HGE.out]
   exact ⟨rfl,HF3.out.drew'.mark true,HB3.out.trans ((RB.drew' _ _ _).trans (RB.mark _ _ _ _))⟩
 ·have HF := Lib.hid h
  have hmo := h.mo
  have hfz := h.fz
  simp only at hmo
  clear h
  go_enter Tryz.func75,Tryz.ntmps75
  go_wp2_with fail
  go_ret
  exact ⟨rfl,HF.out,RB.refl _ _ _⟩
end
section
open Go.RowKit
def enterR (fed : List Nat) (line : Nat) (st : RSt) : ((Nat × Nat × Nat) × Bool) × RSt :=
 (getN (loadR fed (line * 8) st).1 (loadR fed (line * 8 + 1) (loadR fed (line * 8) st).2).1,(loadR fed (line * 8 + 1) (loadR fed (line * 8) st).2).2)
def rootR (fed : List Nat) (st : RSt) : (Nat × (Nat × Nat × Nat) × Bool) × RSt :=
 if (loadR fed 1 st).1 = 0 ∨ 1023 < (loadR fed 1 st).1 then ((0,(0,0,0),false),(loadR fed 1 st).2)
 else (((loadR fed 1 st).1,(enterR fed (loadR fed 1 st).1 (loadR fed 1 st).2).1),(enterR fed (loadR fed 1 st).1 (loadR fed 1 st).2).2)
def Thaw3 (W : World) (X : Nat) : Prop := W.frozen? ⟨X,0,none⟩ = false ∧ W.frozen? ⟨X,1,none⟩ = false ∧ W.frozen? ⟨X,2,none⟩ = false
def zeros8 : Nat -> Value := fun _ => .int .u64 0
variable {R : Nat} {FA : Option Addr} {nf cf : Nat} {fed : List Nat} {st : RSt}
theorem RfAt.put3 {W : World} {X : Nat} {a b c : Int} (h : RfAt R FA nf cf fed st W) (hf : FreeAt R W X) (hR : R <= X) : RfAt R FA nf cf fed st (put3 W X a b c) :=
 ((h.set hf hR).set (hf.set hf.1) hR).set ((hf.set hf.1).set hf.1) hR
set_option maxRecDepth 100000 in
set_option maxHeartbeats 3000000 in
theorem enterR_any (line : Nat) (q : Int) (W : World) (hq : q = (line : Int)) (hln : line < 1024) (hl : st.1.length <= 99000) (hnf : nf <= 100000) (hx64 : ∀ x ∈ fed,x < 18446744073709551616) (h : RfAt R FA nf cf fed st W) :
  Calls Tryz.prog 71 #[.pointer (some ⟨R,0,none⟩),.int .i64 q] W fun e W' => e = .returned (.tuple #[encNd (enterR fed line st).1.1,.bool (enterR fed line st).1.2]) ∧ RfAt R FA nf cf fed (enterR fed line st).2 W' ∧ RB R W.heap.size W W' := by
 subst hq
 have HE : Hid ((enterR fed line st) = (getN (loadR fed (line * 8) st).1 (loadR fed (line * 8 + 1) (loadR fed (line * 8) st).2).1,(loadR fed (line * 8 + 1) (loadR fed (line * 8) st).2).2)) := rfl
 have hL1 := loadR_len fed (line * 8) st
 have hk := loadR_lt hx64 (line * 8) st
 have ht := loadR_lt hx64 (line * 8 + 1) (loadR fed (line * 8) st).2
 obtain ⟨W0,hW0⟩ : ∃ W0,(W.alloc (.cells #[.int .i64 0,.int .i64 0,.int .i64 0] 46)).alloc (.cells #[.int .u64 0,.int .u64 0,.int .u64 0,.int .u64 0,.int .u64 0,.int .u64 0,.int .u64 0,.int .u64 0] 136) = W0 := ⟨_,rfl⟩
 have hb0 : Below W.heap.size W W0 := by rw [<- hW0];exact ((Below.refl _ _).alloc (Nat.le_refl _) _).alloc (by simp) _
 have hs0 : W0.heap.size = W.heap.size + 2 := by rw [<- hW0];simp
 have hRl := h.rd.lt
 have hI : CellsAt W0 W.heap.size 3 (fun _ => .int .i64 0) := by
  have h1 : CellsAt (W.alloc (.cells #[.int .i64 0,.int .i64 0,.int .i64 0] 46)) W.heap.size 3 (fun _ => .int .i64 0) := cellsAt_new _ _ _ _ _ fun i hi => match i,hi with | 0,_ => rfl | 1,_ => rfl | 2,_ => rfl
  rw [<- hW0]
  exact h1.below ((Below.refl _ _).alloc (Nat.le_refl _) _) (by simp)
 have hC : CellsAt W0 (W.heap.size + 1) 8 zeros8 := by
  have h1 := cellsAt_new (W.alloc (.cells #[.int .i64 0,.int .i64 0,.int .i64 0] 46)) #[.int .u64 0,.int .u64 0,.int .u64 0,.int .u64 0,.int .u64 0,.int .u64 0,.int .u64 0,.int .u64 0] 136 8 zeros8 fun i hi => match i,hi with | 0,_ => rfl | 1,_ => rfl | 2,_ => rfl | 3,_ => rfl | 4,_ => rfl | 5,_ => rfl | 6,_ => rfl | 7,_ => rfl
  rw [World.size_alloc] at h1
  rw [<- hW0]
  exact h1
 have hF0 := h.rd.free_new hb0 (Nat.le_refl W.heap.size)
 have hF1 := h.rd.free_new hb0 (Nat.le_succ W.heap.size)
 have HB0 := Lib.hid (RB.of_below hb0 hRl)
 have h0 := h.below hb0
 have HG := Lib.hid (fun W => getInode8_any (loadR fed (line * 8) st).1 (loadR fed (line * 8 + 1) (loadR fed (line * 8) st).2).1 W hk ht)
 have HL1 := Lib.hid (loadR_any (line * 8) (8 * (line : Int)) W0 (by omega) (by omega) hnf hx64 h0)
 have HL2 := Lib.hid (fun W1 (h1 : RfAt R FA nf cf fed (loadR fed (line * 8) st).2 W1) => loadR_any (line * 8 + 1) (8 * (line : Int) + 1) W1 (by omega) (by omega) hnf hx64 h1)
 clear h h0 hb0 hx64 hL1
 generalize loadR fed (line * 8) st = r1 at *
 generalize loadR fed (line * 8 + 1) r1.2 = r2 at *
 obtain ⟨k,st1⟩ := r1
 obtain ⟨t,st2⟩ := r2
 simp only at *
 have hl0 : (0 : Int) <= 8 * (line : Int) := by omega
 have hl1 : 8 * (line : Int) <= 8192 := by omega
 unfold encLn at HG
 go_enter Tryz.func71,Tryz.ntmps71
 go_wp2_with fail
 refine HL1.out.mono ?_
 rintro e w1 ⟨rfl,h1,hb1⟩
 have hI1 := hI.rb hb1 (by omega) hF0
 have hC1 := hC.rb hb1 (by omega) hF1
 have hF01 := (hb1.keep W.heap.size (by omega) hF0).2
 have hF11 := (hb1.keep (W.heap.size + 1) (by omega) hF1).2
 have HB1 := Lib.hid (HB0.out.trans (hb1.mono (by omega)))
 have hs1 := hb1.size
 clear hb1 hI hC hF0 hF1 HB0 HL1
 obtain ⟨w2,hw2⟩ : ∃ w2,w1.setCell ⟨W.heap.size + 1,0,none⟩ (.int .u64 k) = w2 := ⟨_,rfl⟩
 have h2 : RfAt R FA nf cf fed st1 w2 := hw2 ▸ h1.set hF11
 have hs2 : w1.heap.size <= w2.heap.size := by rw [<- hw2];simp [World.setCell]
 have hI2 : CellsAt w2 W.heap.size 3 (fun _ => .int .i64 0) := hw2 ▸ hI1.set (by omega)
 have hC2 := hC1.upd (i := 0) (v := .int .u64 k) (by omega)
 rw [hw2] at hC2
 have hF02 : FreeAt R w2 W.heap.size := hw2 ▸ hF01.set hF11.1
 have hF12 : FreeAt R w2 (W.heap.size + 1) := hw2 ▸ hF11.set hF11.1
 have HB2 : Hid (RB R W.heap.size W w2) := hw2 ▸ HB1.out.set (by omega) hF11.1
 have x0 := hC1.1 0 (by omega)
 have x0' := hC1.2 0
 have hx0 : zeros8 0 = .int .u64 0 := rfl
 rw [hx0] at x0
 clear hx0
 clear hI1 hC1 hF01 hF11 h1
 go_wp2_with fail
 refine (HL2.out _ h2).mono ?_
 rintro e w3 ⟨rfl,h3,hb3⟩
 have hI3 := hI2.rb hb3 (by omega) hF02
 have hC3 := hC2.rb hb3 (by omega) hF12
 have hF03 := (hb3.keep W.heap.size (by omega) hF02).2
 have hF13 := (hb3.keep (W.heap.size + 1) (by omega) hF12).2
 have HB3 := Lib.hid (HB2.out.trans (hb3.mono (by omega)))
 have hs3 := hb3.size
 clear hb3 hI2 hC2 hF02 hF12 HB1 HB2 HL2 h2 x0 x0'
 clear hw2
 obtain ⟨w4,hw4⟩ : ∃ w4,w3.setCell ⟨W.heap.size + 1,1,none⟩ (.int .u64 t) = w4 := ⟨_,rfl⟩
 have h4 : RfAt R FA nf cf fed st2 w4 := hw4 ▸ h3.set hF13
 have hs4 : w3.heap.size <= w4.heap.size := by rw [<- hw4];simp [World.setCell]
 have hI4 : CellsAt w4 W.heap.size 3 (fun _ => .int .i64 0) := hw4 ▸ hI3.set (by omega)
 have hC4 := hC3.upd (i := 1) (v := .int .u64 t) (by omega)
 rw [hw4] at hC4
 have hF04 : FreeAt R w4 W.heap.size := hw4 ▸ hF03.set hF13.1
 have HB4 : Hid (RB R W.heap.size W w4) := hw4 ▸ HB3.out.set (by omega) hF13.1
 have x1 : w3.cell? ⟨W.heap.size + 1,1,none⟩ = some (.int .u64 0) := hC3.1 1 (by omega)
 have x1' := hC3.2 1
 have c0 : w4.cell? ⟨W.heap.size + 1,0,none⟩ = some (.int .u64 k) := hC4.1 0 (by omega)
 have c1 : w4.cell? ⟨W.heap.size + 1,1,none⟩ = some (.int .u64 t) := hC4.1 1 (by omega)
 have c2 : w4.cell? ⟨W.heap.size + 1,2,none⟩ = some (.int .u64 0) := hC4.1 2 (by omega)
 have c3 : w4.cell? ⟨W.heap.size + 1,3,none⟩ = some (.int .u64 0) := hC4.1 3 (by omega)
 have c4 : w4.cell? ⟨W.heap.size + 1,4,none⟩ = some (.int .u64 0) := hC4.1 4 (by omega)
 have c5 : w4.cell? ⟨W.heap.size + 1,5,none⟩ = some (.int .u64 0) := hC4.1 5 (by omega)
 have c6 : w4.cell? ⟨W.heap.size + 1,6,none⟩ = some (.int .u64 0) := hC4.1 6 (by omega)
 have c7 : w4.cell? ⟨W.heap.size + 1,7,none⟩ = some (.int .u64 0) := hC4.1 7 (by omega)
 clear hI3 hC3 hF03 hF13 h3 hC4
 go_wp2_with fail
 refine (HG.out _).mono ?_
 rintro e w5 ⟨rfl,hb5⟩
 clear c0 c1 c2 c3 c4 c5 c6 c7 x1 x1' hw4
 have h5 := h4.below hb5
 have hI5 := hI4.below hb5 (by omega)
 have hF5 := freeAt_below hb5 h4.rd.lt hF04
 have HB5 := Lib.hid (HB4.out.trans ((RB.of_below hb5 h4.rd.lt).mono (by omega)))
 have hs5 := hb5.size
 clear hb5 hI4 hF04 h4
 generalize getN k t = g at *
 obtain ⟨n,b⟩ := g
 have HEV : Hid (encNd n = .agg #[.int .i64 n.1,.int .i64 n.2.1,.int .i64 n.2.2]) := rfl
 have y0 := hI5.1 0 (by omega)
 have y1 := hI5.1 1 (by omega)
 have y2 := hI5.1 2 (by omega)
 have z0 := hI5.2 0
 have z1 := hI5.2 1
 have z2 := hI5.2 2
 simp only at *
 rw [HEV.out]
 have H6 : Hid (RfAt R FA nf cf fed st2 (put3 w5 W.heap.size n.1 n.2.1 n.2.2)) := h5.put3 hF5 (by omega)
 have HB6 : Hid (RB R W.heap.size W (put3 w5 W.heap.size n.1 n.2.1 n.2.2)) := HB5.out.put3 (Nat.le_refl _) hF5.1
 clear hI5 hF5 h5
 unfold put3 at H6 HB6
 go_wp2_with fail
 rw [HE.out]
 refine bodyPost_ret (v := .tuple #[encNd n,.bool b]) (by simp [results,Tryz.results71,go_sem,y0,y1,y2,z0,z1,z2,encNd,encN]) rfl ?_
 exact ⟨rfl,H6.out,HB6.out⟩
end
end Go.Proofs.YtdpooagnbmpinaaGreatDoor
