import Derived.Test.YtdpooagnbmpinaaGreatDoorZJF
import Derived.Test.YtdpooagnbmpinaaGreatDoorZJE
import Derived.Deep.CutRange
namespace Go.Proofs.YtdpooagnbmpinaaGreatDoor
section
open Go.RowKit
attribute [local go_sem] Oper.semAt_some
theorem OwnC.grown' {R X m : Nat} {W W' : World} {f : Nat -> Value} {row : Option Nat} (h : OwnC R W X m f) (hX : some X ≠ row) (hR : some R ≠ row) (hlt : R < W.heap.size) (hg : W.grownBy W' row) : OwnC R W' X m f := by
 have hk := hg.block X h.lt hX
 exact ⟨⟨fun i hi => (World.cell?_of_block (w := W) (a := ⟨X,i,none⟩) hk).trans (h.cells.1 i hi),fun i => (World.frozen?_of_block (w := W) (a := ⟨X,i,none⟩) hk).trans (h.cells.2 i)⟩,free_grown hg hR hlt h.free,Nat.lt_of_lt_of_le h.lt hg.size⟩
theorem rowOf8 {R Z : Nat} {W : World} {ws : List Nat} (h : OwnC R W Z 8 (wordsC ws)) (h8 : ws.length = 8) : RowAt W (some ⟨Z,0,none⟩) (ws.map encW) := fun _ => by
 refine ⟨Z,0,rfl,h.lt,fun k u hu => ?_⟩
 rw [List.getElem?_map] at hu
 cases hk : ws[k]? with
 | none => rw [hk] at hu;cases hu
 | some x =>
  rw [hk] at hu
  have hkl := (List.getElem?_eq_some_iff.1 hk).1
  rw [Nat.zero_add,h.cells.1 k (by omega)]
  have e : getF ws k = x := by unfold getF;rw [List.getD_eq_getElem?_getD,hk];rfl
  unfold wordsC
  rw [e]
  exact hu
theorem sliceB_snoc (ws : List Nat) (k a b : Nat) (h : a <= b) : sliceB ws k a (b + 1) = sliceB ws k a b ++ [UInt8.ofNat (byteW ws (b - 64 * k))] := by
 unfold sliceB
 rw [show b + 1 - a = (b - a) + 1 by omega,List.range_succ,List.map_append]
 simp only [List.map_cons,List.map_nil]
 rw [show a + (b - a) = b by omega]
theorem sliceB_nil (ws : List Nat) (k a : Nat) : sliceB ws k a a = [] := by unfold sliceB;simp
theorem byteW_lt (ws : List Nat) (i : Nat) : byteW ws i < 256 := by unfold byteW;omega
theorem wordsC_zero : ∀ i,i < 8 -> wordsC [] i = wordsC (List.replicate 8 0) i := fun i hi => by
 match i,hi with
 | 0,_ => rfl
 | 1,_ => rfl
 | 2,_ => rfl
 | 3,_ => rfl
 | 4,_ => rfl
 | 5,_ => rfl
 | 6,_ => rfl
 | 7,_ => rfl
variable {R : Nat} {FA : Option Addr} {nf cf : Nat} {fed : List Nat} {st : RSt}
set_option maxRecDepth 200000 in
set_option maxHeartbeats 16000000 in
theorem readR_any (k l t a n : Nat) (W : World) (htop : t < 1024) (hk : k < 1000) (hl : l < 1000) (ha : a < 9223372036854775808) (hn : n < 9223372036854775808) (hok : OkSt fed st) (hnf : nf <= 20000) (hx64 : ∀ x ∈ fed,x < 18446744073709551616) (h : RfAt R FA nf cf fed st W) :
  Calls Tryz.prog 44 #[.pointer (some ⟨R,0,none⟩),.agg #[.int .i64 k,.int .i64 l,.int .i64 t],.int .i64 a,.int .i64 n] W (RefRes R FA nf cf fed W (readRR fed t a n st)) := by
 obtain ⟨i8,hi8,hv0,hv1,hv2⟩ := info_parts Tryz.infoU8
 obtain ⟨W0,hW0⟩ : ∃ W0,(W.alloc (.cells #[.int .i64 k,.int .i64 l,.int .i64 t] 46)).alloc (.cells #[.int .i64 0,.int .i64 0,.int .i64 0,.int .i64 0,.slice none 0 0,.slice none 0 0] 33) = W0 := ⟨_,rfl⟩
 have hnfl : fed.length = nf := h.rd.fedl
 have hb0 : Below W.heap.size W W0 := by rw [<- hW0];exact ((Below.refl _ _).alloc (Nat.le_refl _) _).alloc (by simp) _
 have hs0 : W0.heap.size = W.heap.size + 2 := by rw [<- hW0];simp
 have hRl := h.rd.lt
 have hc0 : CellsAt W0 W.heap.size 3 (ndO k l t) := by
  rw [<- hW0]
  exact (cellsAt_new W _ _ 3 _ fun i hi => match i,hi with | 0,_ => rfl | 1,_ => rfl | 2,_ => rfl).below (m := W.heap.size + 1) ((Below.refl _ _).alloc (by simp) _) (by omega)
 have hc1 : CellsAt W0 (W.heap.size + 1) 6 zeroO := by
  rw [<- hW0]
  have := cellsAt_new (W.alloc (.cells #[.int .i64 k,.int .i64 l,.int .i64 t] 46)) #[.int .i64 0,.int .i64 0,.int .i64 0,.int .i64 0,.slice none 0 0,.slice none 0 0] 33 6 zeroO fun i hi => match i,hi with | 0,_ => rfl | 1,_ => rfl | 2,_ => rfl | 3,_ => rfl | 4,_ => rfl | 5,_ => rfl
  rw [show (W.alloc (.cells #[.int .i64 k,.int .i64 l,.int .i64 t] 46)).heap.size = W.heap.size + 1 from by simp] at this
  exact this
 have C0 := Lib.hid (ownC_fresh h hb0 (Nat.le_refl _) (by omega) hc0)
 have C1 := Lib.hid (ownC_fresh h hb0 (Nat.le_succ _) (by omega) hc1)
 have H0 := Lib.hid (h.below hb0)
 have HB0 := Lib.hid (RB.of_below hb0 hRl)
 have HOK := Lib.hid hok
 have HFL := Lib.hid fails22_any
 have HW0 := Lib.hid hW0
 have hlen : ∀ st' : RSt,OkSt fed st' -> st'.1.length <= 20001 := fun st' h' => by have := h'.1;omega
 have HLD := Lib.hid (fun (p : Nat) (q : Int) (st' : RSt) (W1 : World) (hq : q = (p : Int)) (hst : OkSt fed st') (h1 : RfAt R FA nf cf fed st' W1) => loadR_any p q W1 hq (by have := hlen st' hst;omega) (by omega) hx64 h1)
 have HLT := Lib.hid (fun p (st' : RSt) => loadR_lt (fed := fed) hx64 p st')
 have HS := Lib.hid (sizeR_any (W := W0) t htop (by have := hlen st hok;omega) (by omega) hx64 H0.out)
 have hok2 : OkSt fed (sizeR fed t st).2 := loadR_ok hok (t * 8)
 have hsz : (sizeR fed t st).1.2 = true -> (sizeR fed t st).1.1 <= 448 := fun e => by
  have := of_decide_eq_true e
  show min _ 999 <= 448
  omega
 have HE : Hid (readRR fed t a n st = if (sizeR fed t st).1.2 then (if (readBR fed t (sizeR fed t st).1.1 a n 7 0 [] (sizeR fed t st).2).1.2 then ⟨0,0,0,0,[],(readBR fed t (sizeR fed t st).1.1 a n 7 0 [] (sizeR fed t st).2).1.1⟩ else failsR 300,(readBR fed t (sizeR fed t st).1.1 a n 7 0 [] (sizeR fed t st).2).2)
  else (failsR 300,(sizeR fed t st).2)) := rfl
 generalize readRR fed t a n st = r at *
 generalize sizeR fed t st = s at *
 obtain ⟨⟨sz,ok⟩,st1⟩ := s
 simp only at HE HS hok2 hsz ⊢
 have HOK1 := Lib.hid hok2
 have HSZ := Lib.hid hsz
 have ht8 : (t : Int) <= 1023 := by omega
 have ha0 : (0 : Int) <= (a : Int) := by omega
 have hn0 : (0 : Int) <= (n : Int) := by omega
 clear h hb0 hc0 hc1 hW0 hx64 hok hok2 hlen hsz HOK
 go_enter Tryz.func44,Tryz.ntmps44
 go_wp2_with fail
 rw [HW0.out]
 refine HS.out.mono ?_
 rintro e w1 ⟨rfl,h1,hb1⟩
 have D0 := Lib.hid (C0.out.rb hb1)
 have D1 := Lib.hid (C1.out.rb hb1)
 have H1 := Lib.hid h1
 have HB1 := Lib.hid (HB0.out.trans (hb1.mono (by omega)))
 have hs1 := hb1.size
 clear hb1 h1 C0 C1 H0 HB0 HW0 HS
 cases ok with
 | false =>
  go_wp2_with fail
  refine (HFL.out _ _).mono ?_
  rintro e w2 ⟨rfl,hb2⟩
  have E1 := Lib.hid (D1.out.below (by omega) hb2)
  have H2 := Lib.hid (H1.out.below hb2)
  have HB2 := Lib.hid (HB1.out.trans ((RB.of_below hb2 (by omega)).mono (by omega)))
  have hs2 := hb2.size
  clear hb2
  have z0 : w2.cell? ⟨W.heap.size + 1,0,none⟩ = some (.int .i64 0) := E1.out.cells.1 0 (by omega)
  have z1 : w2.cell? ⟨W.heap.size + 1,1,none⟩ = some (.int .i64 0) := E1.out.cells.1 1 (by omega)
  have z2 : w2.cell? ⟨W.heap.size + 1,2,none⟩ = some (.int .i64 0) := E1.out.cells.1 2 (by omega)
  have z3 : w2.cell? ⟨W.heap.size + 1,3,none⟩ = some (.int .i64 0) := E1.out.cells.1 3 (by omega)
  have z4 : w2.cell? ⟨W.heap.size + 1,4,none⟩ = some (.slice none 0 0) := E1.out.cells.1 4 (by omega)
  have z5 : w2.cell? ⟨W.heap.size + 1,5,none⟩ = some (.slice none 0 0) := E1.out.cells.1 5 (by omega)
  have zf : ∀ i,w2.frozen? ⟨W.heap.size + 1,i,none⟩ = false := E1.out.cells.2
  go_wp2_with fail
  have HCE : Hid (CellsAt (putTo w2 (W.heap.size + 1) (cellsO (failsR 300) none 0 0 none 0 0) 6) (W.heap.size + 1) 6 (cellsO (failsR 300) none 0 0 none 0 0)) := putTo_all E1.out.cells
  have HRE := Lib.hid (H2.out.putTo (X := W.heap.size + 1) (f := cellsO (failsR 300) none 0 0 none 0 0) E1.out.free (by omega) 6)
  have HBE := Lib.hid (HB2.out.putTo (X := W.heap.size + 1) (f := cellsO (failsR 300) none 0 0 none 0 0) (by omega) E1.out.free.1 6)
  have HEF : Hid (r = (failsR 300,st1)) := HE.out
  rw [HEF.out]
  exact read_ret HCE.out (rowsAt_nil _ _ rfl rfl) HRE.out HOK1.out HBE.out rfl
 | true =>
  have hs448 : sz <= 448 := HSZ.out rfl
  obtain ⟨T,hT⟩ : ∃ T,readBR fed t sz a n 7 0 [] st1 = T := ⟨_,rfl⟩
  have HET : Hid (r = (if T.1.2 then ⟨0,0,0,0,[],T.1.1⟩ else failsR 300,T.2)) := by rw [Hid,HE.out,<- hT];rfl
  have HT0 : Hid (readBR fed t sz a n (7 - 0) 0 [] st1 = T) := hT
  clear HE HSZ hT
  go_wp2_with fail
  go_loopw [11,12] (fun v i wr => ∃ (q : Nat) (acc : List UInt8) (st' : RSt),q <= 7 ∧ i = .int .i64 q ∧ Hid (readBR fed t sz a n (7 - q) q acc st' = T) ∧ Hid (OkSt fed st') ∧ Hid (RfAt R FA nf cf fed st' wr) ∧ Hid (RB R W.heap.size W wr) ∧ Hid (OwnC R wr W.heap.size 3 (ndO k l t)) ∧ Hid (OwnC R wr (W.heap.size + 1) 6 zeroO) ∧ acc.length <= 64 * q ∧ Hid (wr.ownsRow (W.heap.size + 2) 5 1 v acc.length (acc.map encB)) ∧ Hid (OffR R wr v)) (fun _ i _ => 7 - (intOf i).toNat)
  case atStart => exact ⟨0,[],st1,by omega,rfl,HT0,HOK1,H1,HB1,D0,D1,by simp,World.ownsRow_nil _ _ _ _,(fun b hb => by cases hb)⟩
  case round =>
   clear D0 D1 H1 HB1 HT0 HOK1
   obtain ⟨q,acc,st',hq,rfl,HT,HOK,H1,HB1,C0,C1,hal,HO1,HF1⟩ := hrel
   obtain ⟨A0,c0,e0,hc0,hcm0⟩ := owns_slice HO1.out
   subst e0
   obtain ⟨na,hna⟩ : ∃ na,acc.length = na := ⟨_,rfl⟩
   rw [hna] at hal hc0 HO1 HF1 ⊢
   have HNA := Lib.hid hna
   clear hna
   have hsr := HB1.out.size
   have hC1l := C1.out.lt
   by_cases hlt : q < 7
   ·obtain ⟨f,hf⟩ : ∃ f,7 - q = f + 1 := ⟨6 - q,by omega⟩
    have hf2 : 7 - (q + 1) = f := by omega
    have HT1 : Hid (T = readBR fed t sz a n (f + 1) q acc st') := by rw [Hid,<- HT.out,hf]
    obtain ⟨fr,hfr⟩ : ∃ fr,fromN a q = fr := ⟨_,rfl⟩
    obtain ⟨un,hun⟩ : ∃ un,untilN sz a n q = un := ⟨_,rfl⟩
    obtain ⟨u0,hu0⟩ : ∃ u0 : Nat,min sz (64 * q + 64) = u0 := ⟨_,rfl⟩
    have hmax : max (a : Int) (64 * (q : Int)) = (fr : Int) := by unfold fromN at hfr;omega
    have hmin : min (sz : Int) (64 * (q : Int) + 64) = (u0 : Int) := by omega
    have hunu : un = min u0 (a + n) := by rw [<- hun,<- hu0];rfl
    have HFR := Lib.hid hfr
    have HUN := Lib.hid hun
    have hq7 : (q : Int) < 7 := by omega
    have hu0b : (u0 : Int) <= 448 := by omega
    have hfrq : 64 * q <= fr := by unfold fromN at hfr;omega
    have hun0 : un <= u0 := by omega
    have hu64 : u0 <= 64 * q + 64 := by omega
    clear hf hfr hun hu0 HT
    go_upto_if 46 with fail
    go_cut [14] from 42 to 49 (fun s14 wx => s14 = .int .i64 (un : Nat) ∧ wx = wr)
    case first =>
     rename_i J K' hJ hK'
     by_cases hnu : (n : Int) < (u0 : Int) - (a : Int)
     ·have e : un = a + n := by omega
      go_wp2_with fail
      go_meet
      exact ⟨by rw [e];rfl,rfl⟩
     ·have e : un = u0 := by omega
      have hd : decide ((n : Int) < (u0 : Int) - (a : Int)) = false := decide_eq_false hnu
      clear hnu
      go_wp2_with fail
      go_meet
      exact ⟨by rw [e],rfl⟩
    case rest =>
     obtain ⟨rfl,rfl⟩ := hcut
     clear hmax hmin hunu
     by_cases hsk : un <= fr
     ·have hd : decide ((un : Int) <= (fr : Int)) = true := decide_eq_true (by omega)
      have HT2 : Hid (readBR fed t sz a n f (q + 1) acc st' = T) := by rw [Hid,HT1.out];conv => rhs;unfold readBR;rw [HFR.out,HUN.out,if_pos hsk]
      go_wp2_with fail
      go_roundw
      case rel => exact ⟨q + 1,acc,st',by omega,by go_num,by rw [Hid,hf2];exact HT2.out,HOK,H1,HB1,C0,C1,by rw [HNA.out];omega,by rw [Hid,HNA.out];exact HO1.out,HF1⟩
      case measure => simp [intOf];omega
     ·have hd : decide ((un : Int) <= (fr : Int)) = false := decide_eq_false (by omega)
      have HT2 : Hid (T = if 1023 < (loadR fed (t * 8 + (1 + q)) st').1 then (([],false),(loadR fed (t * 8 + (1 + q)) st').2) else
        if (loadR fed (t * 8 + (1 + q)) st').1 = 0 then readBR fed t sz a n f (q + 1) (acc ++ sliceB (List.replicate 8 0) q fr un) (loadR fed (t * 8 + (1 + q)) st').2
        else readBR fed t sz a n f (q + 1) (acc ++ sliceB (loadsR fed 8 ((loadR fed (t * 8 + (1 + q)) st').1 * 8) [] (loadR fed (t * 8 + (1 + q)) st').2).1 q fr un) (loadsR fed 8 ((loadR fed (t * 8 + (1 + q)) st').1 * 8) [] (loadR fed (t * 8 + (1 + q)) st').2).2) := by
       rw [Hid,HT1.out];conv => lhs;unfold readBR;rw [HFR.out,HUN.out,if_neg hsk]
      have z2 : wc.cell? ⟨W.heap.size,2,none⟩ = some (.int .i64 t) := C0.out.cells.1 2 (by omega)
      clear HT1 HFR HUN
      go_wp2_with fail
      refine (HLD.out (t * 8 + (1 + q)) _ st' wc (by omega) HOK.out H1.out).mono ?_
      rintro e w2 ⟨rfl,h2,hb2⟩
      have HXP := Lib.hid (HLT.out (t * 8 + (1 + q)) st')
      have HOK2 := Lib.hid (loadR_ok HOK.out (t * 8 + (1 + q)))
      generalize loadR fed (t * 8 + (1 + q)) st' = r2 at *
      obtain ⟨p,st2⟩ := r2
      simp only at HXP HOK2 HT2 h2 ⊢
      have D0 := Lib.hid (C0.out.rb hb2)
      have D1 := Lib.hid (C1.out.rb hb2)
      have H2 := Lib.hid h2
      have HB2 := Lib.hid (HB1.out.trans (hb2.mono hsr))
      have hs2 := hb2.size
      obtain ⟨p1,p2⟩ := own_rb HO1.out HF1.out hb2
      have P1 := Lib.hid p1
      have P2 := Lib.hid p2
      clear hb2 h2 z2 C0 C1 H1 HB1 HOK p1 p2 HO1 HF1
      by_cases hp : 1023 < p
      ·have hpd : decide ((1023 : Int) < (p : Int)) = true := decide_eq_true (by omega)
       have HTE : Hid (T = (([],false),st2)) := by rw [Hid,HT2.out,if_pos hp]
       clear hp
       go_wp2_with fail
       refine (HFL.out _ _).mono ?_
       rintro e w3 ⟨rfl,hb3⟩
       have E1 := Lib.hid (D1.out.below (by omega) hb3)
       have H3 := Lib.hid (H2.out.below hb3)
       have HB3 := Lib.hid (HB2.out.trans ((RB.of_below hb3 (by omega)).mono (by omega)))
       have hs3 := hb3.size
       clear hb3
       have z0 : w3.cell? ⟨W.heap.size + 1,0,none⟩ = some (.int .i64 0) := E1.out.cells.1 0 (by omega)
       have z1 : w3.cell? ⟨W.heap.size + 1,1,none⟩ = some (.int .i64 0) := E1.out.cells.1 1 (by omega)
       have z2 : w3.cell? ⟨W.heap.size + 1,2,none⟩ = some (.int .i64 0) := E1.out.cells.1 2 (by omega)
       have z3 : w3.cell? ⟨W.heap.size + 1,3,none⟩ = some (.int .i64 0) := E1.out.cells.1 3 (by omega)
       have z4 : w3.cell? ⟨W.heap.size + 1,4,none⟩ = some (.slice none 0 0) := E1.out.cells.1 4 (by omega)
       have z5 : w3.cell? ⟨W.heap.size + 1,5,none⟩ = some (.slice none 0 0) := E1.out.cells.1 5 (by omega)
       have zf : ∀ i,w3.frozen? ⟨W.heap.size + 1,i,none⟩ = false := E1.out.cells.2
       go_wp2_with fail
       have HCE : Hid (CellsAt (putTo w3 (W.heap.size + 1) (cellsO (failsR 300) none 0 0 none 0 0) 6) (W.heap.size + 1) 6 (cellsO (failsR 300) none 0 0 none 0 0)) := putTo_all E1.out.cells
       have HRE := Lib.hid (H3.out.putTo (X := W.heap.size + 1) (f := cellsO (failsR 300) none 0 0 none 0 0) E1.out.free (by omega) 6)
       have HBE := Lib.hid (HB3.out.putTo (X := W.heap.size + 1) (f := cellsO (failsR 300) none 0 0 none 0 0) (by omega) E1.out.free.1 6)
       rw [HET.out,HTE.out]
       exact read_ret HCE.out (rowsAt_nil _ _ rfl rfl) HRE.out HOK2.out HBE.out rfl
      ·have hpd : decide ((1023 : Int) < (p : Int)) = false := decide_eq_false (by omega)
       have HT3 : Hid (T = if p = 0 then readBR fed t sz a n f (q + 1) (acc ++ sliceB (List.replicate 8 0) q fr un) st2
        else readBR fed t sz a n f (q + 1) (acc ++ sliceB (loadsR fed 8 (p * 8) [] st2).1 q fr un) (loadsR fed 8 (p * 8) [] st2).2) := by rw [Hid,HT2.out,if_neg hp]
       obtain ⟨Z,hZ⟩ : ∃ Z,w2.heap.size = Z := ⟨_,rfl⟩
       have hmk : ∀ w : World,(Instr.makeSlice 23 (.int .i64 8) (.int .i64 8)).run Tryz.prog w = .ok (.slice (some ⟨w.heap.size,0,none⟩) 8 8) (w.alloc (.cells #[.int .u64 0,.int .u64 0,.int .u64 0,.int .u64 0,.int .u64 0,.int .u64 0,.int .u64 0,.int .u64 0] 24)) := fun _ => by kernel_rfl
       have hbZ : Below w2.heap.size w2 (w2.alloc (.cells #[.int .u64 0,.int .u64 0,.int .u64 0,.int .u64 0,.int .u64 0,.int .u64 0,.int .u64 0,.int .u64 0] 24)) := (Below.refl _ _).alloc (Nat.le_refl _) _
       have HZc : Hid (CellsAt (w2.alloc (.cells #[.int .u64 0,.int .u64 0,.int .u64 0,.int .u64 0,.int .u64 0,.int .u64 0,.int .u64 0,.int .u64 0] 24)) Z 8 (wordsC [])) := by
        rw [Hid,<- hZ]
        exact cellsAt_new _ _ _ _ _ fun i hi => match i,hi with | 0,_ => rfl | 1,_ => rfl | 2,_ => rfl | 3,_ => rfl | 4,_ => rfl | 5,_ => rfl | 6,_ => rfl | 7,_ => rfl
       have hsZ : (w2.alloc (.cells #[.int .u64 0,.int .u64 0,.int .u64 0,.int .u64 0,.int .u64 0,.int .u64 0,.int .u64 0,.int .u64 0] 24)).heap.size = Z + 1 := by simp;omega
       have F0 := Lib.hid (ownC_fresh H2.out hbZ (by omega) (by omega) HZc.out)
       have E0 := Lib.hid (D0.out.below (by omega) hbZ)
       have E1 := Lib.hid (D1.out.below (by omega) hbZ)
       have H3 := Lib.hid (H2.out.below hbZ)
       have HB3 := Lib.hid (HB2.out.trans ((RB.of_below hbZ (by omega)).mono (by omega)))
       have Q1 := Lib.hid (P1.out.alloc (.cells #[.int .u64 0,.int .u64 0,.int .u64 0,.int .u64 0,.int .u64 0,.int .u64 0,.int .u64 0,.int .u64 0] 24))
       have Q2 : Hid (OffR R (w2.alloc (.cells #[.int .u64 0,.int .u64 0,.int .u64 0,.int .u64 0,.int .u64 0,.int .u64 0,.int .u64 0,.int .u64 0] 24)) (.slice A0 na c0)) := fun b hb => freeAt_below hbZ (by omega) (P2.out b hb)
       have QZ : Hid (∀ b,(Value.slice A0 na c0).ownBlock = some b -> b < Z) := fun b hb => by have := (P1.out.lt b hb).2;omega
       clear hbZ HZc HT2 D0 D1 H2 HB2 P1 P2
       go_wp2_with fail
       obtain ⟨TL,hTL⟩ : ∃ TL,loadsR fed 8 (p * 8) [] st2 = TL := ⟨_,rfl⟩
       rw [hTL] at HT3
       have HTL0 : Hid (loadsR fed (8 - 0) (p * 8 + 0) [] st2 = TL) := hTL
       have hp1 : (p : Int) <= 1023 := by omega
       have hp0 : (0 : Int) <= (p : Int) := by omega
       clear hTL hmk
       go_loopw [17] (fun i wq => ∃ (j : Nat) (ws : List Nat) (sq : RSt),j <= 8 ∧ i = .int .i64 j ∧ Hid (ws.length = j) ∧ Hid (p = 0 -> j = 0 ∧ sq = st2) ∧ Hid (loadsR fed (8 - j) (p * 8 + j) ws sq = TL) ∧ Hid (OkSt fed sq) ∧ Hid (RfAt R FA nf cf fed sq wq) ∧ Hid (RB R W.heap.size W wq) ∧ Hid (OwnC R wq Z 8 (wordsC ws)) ∧ Hid (OwnC R wq W.heap.size 3 (ndO k l t)) ∧ Hid (OwnC R wq (W.heap.size + 1) 6 zeroO) ∧ Hid (∀ y ∈ ws,y < 18446744073709551616) ∧ Hid (wq.ownsRow (W.heap.size + 2) 5 1 (.slice A0 na c0) na (acc.map encB)) ∧ Hid (OffR R wq (.slice A0 na c0))) (fun i _ => 8 - (intOf i).toNat)
       case atStart => exact ⟨0,[],st2,by omega,rfl,rfl,(fun _ => ⟨rfl,rfl⟩),HTL0,HOK2,H3,HB3,F0,E0,E1,(fun y hy => by cases hy),Q1,Q2⟩
       case round =>
        clear F0 E0 E1 H3 HB3 Q1 Q2 HTL0 HOK2
        obtain ⟨j,ws,sq,hj,rfl,HWL,HP0,HTT,HOKq,HRq,HBq,FZ,FN,FO,HWB,HQ1,HQ2⟩ := hrel
        have hsq := HBq.out.size
        have hZq := FZ.out.lt
        have hj0 : (0 : Int) <= (j : Int) := by omega
        go_upto_region 17 with fail
        go_cut [70] from 65 to 69 (fun s70 wx => s70 = .bool (decide (j < 8 ∧ p ≠ 0)) ∧ wx = wr)
        case first =>
         rename_i J K' hJ hK'
         by_cases hj8 : j < 8
         ·by_cases h0 : p = 0
          ·have e : decide (j < 8 ∧ p ≠ 0) = false := decide_eq_false (fun h => h.2 h0)
           have pb : ((p : Int) != 0) = false := by rw [bne_eq_false_iff_eq];omega
           have jb : decide ((j : Int) < 8) = true := decide_eq_true (by omega)
           clear h0 hj8
           go_wp2_with fail
           go_meet
           exact ⟨by rw [e],rfl⟩
          ·have e : decide (j < 8 ∧ p ≠ 0) = true := decide_eq_true ⟨hj8,h0⟩
           have pb : ((p : Int) != 0) = true := by rw [bne_iff_ne];omega
           have jb : decide ((j : Int) < 8) = true := decide_eq_true (by omega)
           clear h0 hj8
           go_wp2_with fail
           go_meet
           exact ⟨by rw [e],rfl⟩
         ·have e : decide (j < 8 ∧ p ≠ 0) = false := decide_eq_false (fun h => hj8 h.1)
          have jb : decide ((j : Int) < 8) = false := decide_eq_false (by omega)
          clear hj8
          go_wp2_with fail
          go_meet
          exact ⟨by rw [e],rfl⟩
        case rest =>
         obtain ⟨rfl,rfl⟩ := hcut
         by_cases hgo : j < 8 ∧ p ≠ 0
         ·rw [decide_eq_true hgo]
          obtain ⟨hj8,hp00⟩ := hgo
          obtain ⟨f5,hf5⟩ : ∃ f5,8 - j = f5 + 1 := ⟨7 - j,by omega⟩
          have hf6 : 8 - (j + 1) = f5 := by omega
          have HTT1 : Hid (loadsR fed f5 (p * 8 + (j + 1)) (ws ++ [(loadR fed (p * 8 + j) sq).1]) (loadR fed (p * 8 + j) sq).2 = TL) := by rw [Hid,<- HTT.out,hf5];rfl
          have hj88 : (j : Int) < 8 := by omega
          have hj89 : (j : Int) + 1 <= 8 := by omega
          clear hf5
          go_wp2_with fail
          refine (HLD.out (p * 8 + j) _ sq wc (by omega) HOKq.out HRq.out).mono ?_
          rintro e w5 ⟨rfl,h5,hb5⟩
          have G1 := Lib.hid (FZ.out.rb hb5)
          have G2 := Lib.hid (FN.out.rb hb5)
          have G3 := Lib.hid (FO.out.rb hb5)
          have hs5 := hb5.size
          have c5 : w5.cell? ⟨Z,j,none⟩ = some (wordsC ws j) := G1.out.cells.1 j hj8
          have f5' : w5.frozen? ⟨Z,j,none⟩ = false := G1.out.cells.2 j
          obtain ⟨o1,o2⟩ := own_rb HQ1.out HQ2.out hb5
          have HXL := Lib.hid (HLT.out (p * 8 + j) sq)
          have HOK5 := Lib.hid (loadR_ok HOKq.out (p * 8 + j))
          generalize loadR fed (p * 8 + j) sq = r5 at *
          obtain ⟨y,sy⟩ := r5
          simp only at HTT1 h5 HXL HOK5 ⊢
          have hZR : Z ≠ R := by omega
          have HR6 := Lib.hid (h5.set (i := j) (v := .int .u64 y) G1.out.free (by omega))
          have HB6 := Lib.hid ((HBq.out.trans (hb5.mono hsq)).set (b := Z) (i := j) (v := .int .u64 y) (by omega) hZR)
          have G1' : Hid (OwnC R (w5.setCell ⟨Z,j,none⟩ (.int .u64 y)) Z 8 (wordsC (ws ++ [y]))) := by
           have h0 := G1.out.cells.word (x := y) (by rw [HWL.out];exact hj8)
           rw [HWL.out] at h0
           exact ⟨h0,G1.out.free.set hZR,by have := G1.out.lt;simpa [World.setCell] using this⟩
          have G2' := Lib.hid (G2.out.set (B := Z) (i := j) (v := .int .u64 y) (by omega) hZR)
          have G3' := Lib.hid (G3.out.set (B := Z) (i := j) (v := .int .u64 y) (by omega) hZR)
          have O1 := Lib.hid (o1.kept (grown_set w5 ⟨Z,j,none⟩ (.int .u64 y)) (.inr (fun e => by have := QZ.out Z e;omega)))
          have O2 : Hid (OffR R (w5.setCell ⟨Z,j,none⟩ (.int .u64 y)) (.slice A0 na c0)) := fun b hb => (o2 b hb).set hZR
          clear h5 hb5 o1 o2 HRq HBq FZ FN FO HQ1 HQ2 HTT HOKq G1 G2 G3
          go_wp2_with fail
          go_roundw
          case rel => exact ⟨j + 1,ws ++ [y],sy,by omega,by go_num,by rw [Hid,List.length_append,HWL.out];rfl,(fun e => absurd e hp00),by rw [Hid,hf6];exact HTT1.out,HOK5,HR6,HB6,G1',G2',G3',(fun z hz => by rcases List.mem_append.1 hz with hz | hz;exact HWB.out z hz;rw [List.mem_singleton.1 hz];exact HXL.out),O1,O2⟩
          case measure => simp [intOf];omega
         ·rw [decide_eq_false hgo]
          obtain ⟨W8,h8l,h8c,h8b,HT4⟩ : ∃ W8 : List Nat,W8.length = 8 ∧ OwnC R wc Z 8 (wordsC W8) ∧ (∀ y ∈ W8,y < 18446744073709551616) ∧ T = readBR fed t sz a n f (q + 1) (acc ++ sliceB W8 q fr un) sq := by
           by_cases h0 : p = 0
           ·obtain ⟨rfl,rfl⟩ := HP0.out h0
            have hws : ws = [] := List.eq_nil_of_length_eq_zero HWL.out
            subst hws
            exact ⟨List.replicate 8 0,by simp,⟨cells_congr FZ.out.cells wordsC_zero,FZ.out.free,FZ.out.lt⟩,(fun y hy => by rw [List.eq_of_mem_replicate hy];omega),by rw [HT3.out,if_pos h0]⟩
           ·obtain rfl : j = 8 := by
             have : ¬ j < 8 := fun h => hgo ⟨h,h0⟩
             omega
            have hTE : (ws,sq) = TL := HTT.out
            exact ⟨ws,HWL.out,FZ.out,HWB.out,by rw [HT3.out,if_neg h0,<- hTE]⟩
          have H8L := Lib.hid h8l
          have H8C := Lib.hid h8c
          have H8B := Lib.hid h8b
          have HT5 := Lib.hid HT4
          have QZ' : Hid (∀ b,(Value.slice A0 na c0).ownBlock = some b -> b ≠ Z) := fun b hb => by have := QZ.out b hb;omega
          clear h8l h8c h8b HT4 HT3 HTT HP0 HWL HWB FZ hgo QZ hj hj0
          go_wp2_with fail
          go_loopw [11,18] (fun v i wq => ∃ (x : Nat),fr <= x ∧ x <= un ∧ i = .int .i64 x ∧ Hid (RfAt R FA nf cf fed sq wq) ∧ Hid (RB R W.heap.size W wq) ∧ Hid (OwnC R wq Z 8 (wordsC W8)) ∧ Hid (OwnC R wq W.heap.size 3 (ndO k l t)) ∧ Hid (OwnC R wq (W.heap.size + 1) 6 zeroO) ∧ Hid (wq.ownsRow (W.heap.size + 2) 5 1 v (na + (x - fr)) ((acc ++ sliceB W8 q fr x).map encB)) ∧ Hid (OffR R wq v) ∧ Hid (∀ b,v.ownBlock = some b -> b ≠ Z)) (fun _ i _ => un - (intOf i).toNat)
          case atStart => exact ⟨fr,Nat.le_refl _,by omega,rfl,HRq,HBq,H8C,FN,FO,by rw [Hid,sliceB_nil,List.append_nil,Nat.sub_self];exact HQ1.out,HQ2,QZ'⟩
          case round =>
           clear HRq HBq H8C FN FO HQ1 HQ2 QZ' hsq hZq
           obtain ⟨x,hx1,hx2,rfl,HRq,HBq,FZ,FN,FO,HQ1,HQ2,HQZ⟩ := hrel
           obtain ⟨A5,c5,e5,hc5,hcm5⟩ := owns_slice HQ1.out
           subst e5
           have hsq := HBq.out.size
           have hZq := FZ.out.lt
           by_cases hlx : x < un
           ·obtain ⟨d,hd⟩ : ∃ d : Nat,x - 64 * q = d := ⟨_,rfl⟩
            have hdi : (x : Int) - 64 * (q : Int) = (d : Int) := by omega
            have hd64 : d < 64 := by omega
            have HBY := Lib.hid (refbyte_any W8 (some ⟨Z,0,none⟩) 8 8 d wr H8L.out (by omega) (by omega) H8B.out (rowOf8 FZ.out H8L.out))
            have hx0 : (0 : Int) <= (x : Int) := by omega
            have hx448 : (x : Int) < 448 := by omega
            have hxu : decide (x < un) = true := decide_eq_true hlx
            obtain ⟨nx,hnx⟩ : ∃ nx,na + (x - fr) = nx := ⟨_,rfl⟩
            rw [hnx] at HQ1 HQ2 HQZ hc5 ⊢
            have HNX2 : Hid (nx + 1 = na + (x + 1 - fr)) := by rw [Hid];omega
            have hnxb : nx <= 1000 := by omega
            go_wp2_with fail
            refine HBY.out.mono ?_
            rintro e w6 ⟨rfl,hb6⟩
            have hby : byteW W8 d < 256 := byteW_lt W8 d
            have HSN : Hid (sliceB W8 q fr (x + 1) = sliceB W8 q fr x ++ [UInt8.ofNat (byteW W8 d)]) := by rw [Hid,sliceB_snoc W8 q fr x hx1,hd]
            have HEN : Hid (encB (UInt8.ofNat (byteW W8 d)) = .int .u8 (byteW W8 d : Nat)) := by
             show Value.int .u8 ((UInt8.ofNat (byteW W8 d)).toNat : Nat) = _
             rw [UInt8.toNat_ofNat',Nat.mod_eq_of_lt hby]
            generalize byteW W8 d = bv at *
            have hbA : Below w6.heap.size w6 (w6.alloc (.cells #[.int .u8 (bv : Nat)] 5)) := (Below.refl _ _).alloc (Nat.le_refl _) _
            have hs6 := hb6.size
            have HRA := Lib.hid ((HRq.out.below hb6).below hbA)
            have HBA := Lib.hid ((HBq.out.trans ((RB.of_below hb6 (by omega)).mono hsq)).trans ((RB.of_below hbA (by omega)).mono (by omega)))
            have GZ := Lib.hid ((FZ.out.below (by omega) hb6).below (by omega) hbA)
            have GN := Lib.hid ((FN.out.below (by omega) hb6).below (by omega) hbA)
            have GO := Lib.hid ((FO.out.below (by omega) hb6).below (by omega) hbA)
            have OA := Lib.hid ((owns_below HQ1.out hb6).alloc (.cells #[.int .u8 (bv : Nat)] 5))
            have OB : Hid (OffR R (w6.alloc (.cells #[.int .u8 (bv : Nat)] 5)) (.slice A5 nx c5)) := fun b hb => freeAt_below hbA (by omega) (freeAt_below hb6 (by omega) (HQ2.out b hb))
            have H1 : Hid (∀ u ∈ [Value.int .u8 (bv : Nat)],u.oneCell' = true) := fun u hu => by rw [List.mem_singleton.1 hu];rfl
            clear hbA hb6 HRq HBq FZ FN FO HQ1 HQ2 HBY
            go_wp2_with (at_builtin;refine wpList_append_lies _ rfl (.tmp 89) (.tmp 96) 26 rfl (W.heap.size + 2) 5 i8 (.int .u8 0) 1 1 Tryz.underlying26 hi8 hv0 hv1 hv2 rfl (by decide) (.slice A5 nx c5) nx ((acc ++ sliceB W8 q fr x).map encB) rfl OA.out ⟨w6.heap.size,0,none⟩ 1 1 [.int .u8 (bv : Nat)] rfl rfl ?c0 H1.out (by decide) ?c1 ?c2 ?c3 (w6.heap.size + 1) (by simp) ?_)
            case c0 => exact World.news_of_block (World.alloc_heap_new _ _)
            case c1 => unfold maxLen;omega
            case c2 => omega
            case c3 => simp;omega
            intro g cap w7 hown7 hg7 hcase hgl
            obtain ⟨k1,k2,k3⟩ := append_beside HRA.out HBA.out (by simp;omega) hRl (by omega) OA.out OB.out hown7 hg7 (hcase.imp (fun e => e.symm) (fun e => by rw [e];simp [Value.ownBlock]))
            have hRne : some R ≠ (Value.slice A5 nx c5).ownBlock := fun e => (OB.out R e.symm).1 rfl
            have hZne : some Z ≠ (Value.slice A5 nx c5).ownBlock := fun e => HQZ.out Z e.symm rfl
            have K1 := Lib.hid k1
            have K2 := Lib.hid k2
            have K3 := Lib.hid k3
            have M1 := Lib.hid (GZ.out.grown' hZne hRne (by simp;omega) hg7)
            have M2 := Lib.hid (GN.out.grown OA.out (by omega) hRne (by simp;omega) hg7)
            have M3 := Lib.hid (GO.out.grown OA.out (by omega) hRne (by simp;omega) hg7)
            have M4 : Hid (w7.ownsRow (W.heap.size + 2) 5 1 (.slice (some ⟨g,0,none⟩) (nx + 1) cap) (na + (x + 1 - fr)) ((acc ++ sliceB W8 q fr (x + 1)).map encB)) := by
             have e : (acc ++ sliceB W8 q fr (x + 1)).map encB = acc.map encB ++ ((sliceB W8 q fr x).map encB ++ [.int .u8 (bv : Nat)]) := by rw [HSN.out];simp only [List.map_append,List.map_cons,List.map_nil,HEN.out]
             rw [Hid,<- HNX2.out,e]
             exact hown7
            have M5 : Hid (∀ b,(Value.slice (some ⟨g,0,none⟩) (nx + 1) cap).ownBlock = some b -> b ≠ Z) := fun b hb => by
             have e : g = b := by simpa [Value.ownBlock] using hb
             rcases hcase with h | h
             ·exact e ▸ HQZ.out g h
             ·omega
            clear k1 k2 k3 hown7 hg7 hcase hRne hZne HRA HBA GZ GN GO OA OB H1 HSN HEN HQZ
            go_wp2_with fail
            go_roundw
            case rel => exact ⟨x + 1,by omega,by omega,by go_num,K1,K2,M1,M2,M3,M4,K3,M5⟩
            case measure => simp [intOf];omega
           ·obtain rfl : x = un := by omega
            have HOF : Hid (wr.ownsRow (W.heap.size + 2) 5 1 (.slice A5 (na + (x - fr)) c5) (acc ++ sliceB W8 q fr x).length ((acc ++ sliceB W8 q fr x).map encB)) := by
             have e : (acc ++ sliceB W8 q fr x).length = na + (x - fr) := by
              rw [List.length_append,HNA.out];unfold sliceB;simp
             rw [Hid,e];exact HQ1.out
            have hal2 : (acc ++ sliceB W8 q fr x).length <= 64 * (q + 1) := by
             rw [List.length_append,HNA.out];unfold sliceB;simp;omega
            go_wp2_with fail
            go_roundw
            case rel => exact ⟨q + 1,acc ++ sliceB W8 q fr x,sq,by omega,by go_num,by rw [Hid,hf2];exact HT5.out.symm,HOKq,HRq,HBq,FN,FO,hal2,HOF,HQ2⟩
            case measure => simp [intOf];omega
   ·obtain rfl : q = 7 := by omega
    have HTE : Hid (T = ((acc,true),st')) := HT.out.symm
    have z0 : wr.cell? ⟨W.heap.size + 1,0,none⟩ = some (.int .i64 0) := C1.out.cells.1 0 (by omega)
    have z1 : wr.cell? ⟨W.heap.size + 1,1,none⟩ = some (.int .i64 0) := C1.out.cells.1 1 (by omega)
    have z2 : wr.cell? ⟨W.heap.size + 1,2,none⟩ = some (.int .i64 0) := C1.out.cells.1 2 (by omega)
    have z3 : wr.cell? ⟨W.heap.size + 1,3,none⟩ = some (.int .i64 0) := C1.out.cells.1 3 (by omega)
    have z4 : wr.cell? ⟨W.heap.size + 1,4,none⟩ = some (.slice none 0 0) := C1.out.cells.1 4 (by omega)
    have z5 : wr.cell? ⟨W.heap.size + 1,5,none⟩ = some (.slice none 0 0) := C1.out.cells.1 5 (by omega)
    have zf : ∀ i,wr.frozen? ⟨W.heap.size + 1,i,none⟩ = false := C1.out.cells.2
    go_wp2_with fail
    have HCE : Hid (CellsAt (putTo wr (W.heap.size + 1) (cellsO (⟨0,0,0,0,[],acc⟩) none 0 0 A0 na c0) 6) (W.heap.size + 1) 6 (cellsO (⟨0,0,0,0,[],acc⟩) none 0 0 A0 na c0)) := putTo_all C1.out.cells
    have HRE := Lib.hid (H1.out.putTo (X := W.heap.size + 1) (f := cellsO (⟨0,0,0,0,[],acc⟩) none 0 0 A0 na c0) C1.out.free (by omega) 6)
    have HBE := Lib.hid (HB1.out.putTo (X := W.heap.size + 1) (f := cellsO (⟨0,0,0,0,[],acc⟩) none 0 0 A0 na c0) (by omega) C1.out.free.1 6)
    have HRO : Hid (RowsAt W.heap.size (putTo wr (W.heap.size + 1) (cellsO ⟨0,0,0,0,[],acc⟩ none 0 0 A0 na c0) 6) ⟨0,0,0,0,[],acc⟩ none 0 0 A0 na c0) := by
     have h0 : RowsAt (W.heap.size + 2) wr ⟨0,0,0,0,[],acc⟩ none 0 0 A0 na c0 := ⟨rfl,HNA.out,Nat.le_refl _,hc0,hcm0,by unfold maxLen;omega,RowAt.nil,row_of_own HO1.out,by simp,fun ad e => (HO1.out.lt ad.block (by rw [e];rfl)).1⟩
     exact (h0.putTo (by omega) 6).below (Below.refl _ _) (by omega)
    rw [HET.out,HTE.out]
    exact read_ret HCE.out HRO.out HRE.out HOK.out HBE.out rfl
end
section
open Go.RowKit
variable {R : Nat} {FA : Option Addr} {nf cf : Nat} {fed : List Nat} {st : RSt}
set_option maxRecDepth 100000 in
set_option maxHeartbeats 6000000 in
theorem walkR_free (nm : List (List UInt8)) (NA : Option Addr) (m cn : Nat) (W : World) (hm : nm.length = m) (hm100 : m <= 100) (hcn : m <= cn) (hright : ∀ x ∈ nm,rightB x = true) (hrow : RowAt W NA (nm.map fun x => .string (ofBytes x))) (hNA : 0 < m -> ∀ b off,NA = some ⟨b,off,none⟩ -> FreeAt R W b)
  (hok : OkSt fed st) (hnf : nf <= 20000) (hx64 : ∀ x ∈ fed,x < 18446744073709551616) (h : RfAt R FA nf cf fed st W) :
  Calls Tryz.prog 40 #[.pointer (some ⟨R,0,none⟩),.slice NA m cn] W fun e W' => e = .returned (encWV (walkR fed nm st).1) ∧ RfAt R FA nf cf fed (walkR fed nm st).2 W' ∧ RB R W.heap.size W W' := by
 have hnfl : fed.length = nf := h.rd.fedl
 have hlen : ∀ st' : RSt,OkSt fed st' -> st'.1.length <= 20001 := fun st' h' => by have := h'.1;omega
 have HEN := Lib.hid (fun (line : Nat) (st' : RSt) (W1 : World) (hln : line < 1024) (hst : OkSt fed st') (h1 : RfAt R FA nf cf fed st' W1) => enterR_any line (line : Int) W1 rfl hln (by have := hlen st' hst;omega) (by omega) hx64 h1)
 have HFI := Lib.hid (fun (top : Nat) (x : List UInt8) (st' : RSt) (W1 : World) (ht : top < 1024) (hx : rightB x = true) (hst : OkSt fed st') (h1 : RfAt R FA nf cf fed st' W1) => findR_any top (ofBytes x) W1 ht (by rw [bytesOf_ofBytes];exact hx) hst hnf hx64 h1)
 have HWR : Hid (walkR fed nm st = if (rootR fed st).1.2.2 = true then walkLR fed nm (rootR fed st).1.1 (rootR fed st).1.2.1 (rootR fed st).2 else ((0,(0,0,0),300),(rootR fed st).2)) := rfl
 have hokr := rootR_ok hok
 have htop := rootR_top (fed := fed) (st := st)
 obtain ⟨W0,hW0⟩ : ∃ W0,W.alloc (.cells #[.int .i64 0,.int .i64 0,.int .i64 0] 46) = W0 := ⟨_,rfl⟩
 have hb0 : Below W.heap.size W W0 := by rw [<- hW0];exact (Below.refl _ _).alloc (Nat.le_refl _) _
 have hs0 : W0.heap.size = W.heap.size + 1 := by rw [<- hW0];simp
 have hRl := h.rd.lt
 have hI : CellsAt W0 W.heap.size 3 z3 := by
  rw [<- hW0]
  exact cellsAt_new _ _ _ _ _ fun i hi => match i,hi with | 0,_ => rfl | 1,_ => rfl | 2,_ => rfl
 have hF0 := h.rd.free_new hb0 (Nat.le_refl W.heap.size)
 have HB0 := Lib.hid (RB.of_below hb0 hRl)
 have h0 := h.below hb0
 have HRT := Lib.hid (rootR_any W0 (by have := hlen st hok;omega) (by omega) hx64 h0)
 have HROW := Lib.hid hrow
 have HNA := Lib.hid hNA
 have HRD := Lib.hid h.rd
 have HRI := Lib.hid hright
 have HM := Lib.hid hm
 have HX := Lib.hid hx64
 clear h h0 hb0 hx64 hok hlen hrow hNA hright hm hnfl
 generalize rootR fed st = r1 at *
 obtain ⟨⟨ln1,n1,is1⟩,st1⟩ := r1
 have HOK1 := Lib.hid hokr
 have HT1 := Lib.hid htop
 clear hokr htop
 simp only at *
 have HEV1 : Hid (encRt (ln1,n1,is1) = .tuple #[.int .i64 ln1,.agg #[.int .i64 n1.1,.int .i64 n1.2.1,.int .i64 n1.2.2],.bool is1]) := rfl
 rw [HEV1.out] at HRT
 cases is1
 ·have HE : Hid (walkR fed nm st = ((0,(0,0,0),300),st1)) := by rw [Hid,HWR.out];exact if_neg (by simp)
  go_enter Tryz.func40,Tryz.ntmps40
  go_wp2_with fail
  refine HRT.out.mono ?_
  rintro e w1 ⟨rfl,h1,hb1⟩
  have hI1 := hI.rb hb1 (by omega) hF0
  have hF1 := (hb1.keep W.heap.size (by omega) hF0).2
  have HB1 := Lib.hid (HB0.out.trans (hb1.mono (by omega)))
  have hs1 := hb1.size
  clear hI hF0 hb1
  obtain ⟨w2,hw2⟩ : ∃ w2,w1.alloc (.cells #[.int .i64 n1.1,.int .i64 n1.2.1,.int .i64 n1.2.2] 46) = w2 := ⟨_,rfl⟩
  have hb2 : Below w1.heap.size w1 w2 := by rw [<- hw2];exact (Below.refl _ _).alloc (Nat.le_refl _) _
  have hI2 := hI1.below hb2 (by omega)
  have hF2 := freeAt_below hb2 h1.rd.lt hF1
  have H3 := Lib.hid ((h1.below hb2).put3 (a := 0) (b := 0) (c := 0) hF2 (by omega))
  have HB3 := Lib.hid ((HB1.out.trans ((RB.of_below hb2 h1.rd.lt).mono (by omega))).put3 (a := 0) (b := 0) (c := 0) (Nat.le_refl _) hF1.1)
  unfold put3 at H3 HB3
  have y0 := hI2.1 0 (by omega)
  have y1 := hI2.1 1 (by omega)
  have y2 := hI2.1 2 (by omega)
  have z0 := hI2.2 0
  have z1 := hI2.2 1
  have z2 := hI2.2 2
  unfold z3 at y0 y1 y2
  clear hI1 hF1 h1 hb2 hI2 hF2 hW0
  go_wp2_with fail
  rw [HE.out]
  refine bodyPost_ret (v := encWV (0,(0,0,0),300)) (by simp [results,Tryz.results40,go_sem,y0,y1,y2,z0,z1,z2,encWV,encNd,encN]) rfl ?_
  exact ⟨rfl,H3.out,HB3.out⟩
 ·have HE : Hid (walkR fed nm st = walkLR fed nm ln1 n1 st1) := by rw [Hid,HWR.out];exact if_pos rfl
  have ht1 := HT1.out rfl
  go_enter Tryz.func40,Tryz.ntmps40
  go_wp2_with fail
  refine HRT.out.mono ?_
  rintro e w1 ⟨rfl,h1,hb1⟩
  have hI1 := hI.rb hb1 (by omega) hF0
  have hF1 := (hb1.keep W.heap.size (by omega) hF0).2
  have HB1 := Lib.hid (HB0.out.trans (hb1.mono (by omega)))
  have hs1 := hb1.size
  clear hI hF0 hb1 hW0
  obtain ⟨w2,hw2⟩ : ∃ w2,w1.alloc (.cells #[.int .i64 n1.1,.int .i64 n1.2.1,.int .i64 n1.2.2] 46) = w2 := ⟨_,rfl⟩
  have hb2 : Below w1.heap.size w1 w2 := by rw [<- hw2];exact (Below.refl _ _).alloc (Nat.le_refl _) _
  have hC2 : CellsAt w2 w1.heap.size 3 (ndC n1) := by
   rw [<- hw2]
   exact cellsAt_new _ _ _ _ _ fun i hi => match i,hi with | 0,_ => rfl | 1,_ => rfl | 2,_ => rfl
  have hs2 : w2.heap.size = w1.heap.size + 1 := by rw [<- hw2];simp
  have hI2 := hI1.below hb2 (by omega)
  have hF2 := freeAt_below hb2 h1.rd.lt hF1
  have hG2 := h1.rd.free_new hb2 (Nat.le_refl w1.heap.size)
  have h2 := h1.below hb2
  have HB2 := Lib.hid (HB1.out.trans ((RB.of_below hb2 h1.rd.lt).mono (by omega)))
  clear hI1 hF1 h1 hb2 HB1
  go_wp2_with fail
  clear hw2
  obtain ⟨X,hX⟩ : ∃ X,w1.heap.size = X := ⟨_,rfl⟩
  rw [hX] at hC2 hG2 hs2 hs1
  rw [hX]
  have hXW : W.heap.size < X := by omega
  clear hX
  go_loopw [7,10] (fun l i wr => ∃ (k ln : Nat) (n : Nat × Nat × Nat) (st' : RSt),k <= m ∧ n.2.2 < 1024 ∧ l = .int .i64 ln ∧ i = .int .i64 k ∧ RfAt R FA nf cf fed st' wr ∧ RB R W.heap.size W wr ∧ X < wr.heap.size ∧ Hid (CellsAt wr W.heap.size 3 z3 ∧ FreeAt R wr W.heap.size ∧ CellsAt wr X 3 (ndC n) ∧ FreeAt R wr X) ∧ Hid (walkR fed nm st = walkLR fed (nm.drop k) ln n st') ∧ Hid (OkSt fed st')) (fun _ i _ => m - (intOf i).toNat)
  case atStart => exact ⟨0,ln1,n1,st1,Nat.zero_le _,ht1,rfl,rfl,h2,HB2.out,by omega,⟨hI2,hF2,hC2,hG2⟩,HE.out,HOK1.out⟩
  case round =>
   obtain ⟨k,ln,n,st',hk,htn,rfl,rfl,hrf,hrb,hXr,hcs,hef,hst⟩ := hrel
   obtain ⟨hcO,hfO,hcX,hfX⟩ := hcs.out
   have hsr := hrb.size
   by_cases hlt : k < m
   ·obtain ⟨s,hs⟩ : ∃ s,nm[k]? = some s := ⟨_,List.getElem?_eq_getElem (by rw [HM.out];exact hlt)⟩
    have hdrop : nm.drop k = s :: nm.drop (k + 1) := by
     have hkw : k < nm.length := by rw [HM.out];exact hlt
     rw [List.drop_eq_getElem_cons hkw]
     rw [List.getElem?_eq_getElem hkw] at hs
     exact congrArg (· :: nm.drop (k + 1)) (Option.some.inj hs)
    have hrs := HRI.out s (List.mem_of_getElem? hs)
    obtain ⟨b,off,rfl,hbW,hcb⟩ := HROW.out (by rw [List.length_map,HM.out];omega)
    have hbR := HNA.out (by omega) b off rfl
    have hcs' : wr.cell? ⟨b,off + k,none⟩ = some (.string (ofBytes s)) := (hrb.cell (by omega) hbR).trans (hcb k _ (by rw [List.getElem?_map,hs];rfl))
    have hbF : FreeAt R wr b := (hrb.keep b (by omega) hbR).2
    have x0 : wr.cell? ⟨X,0,none⟩ = some (.int .i64 n.1) := hcX.1 0 (by omega)
    have x1 : wr.cell? ⟨X,1,none⟩ = some (.int .i64 n.2.1) := hcX.1 1 (by omega)
    have x2 : wr.cell? ⟨X,2,none⟩ = some (.int .i64 n.2.2) := hcX.1 2 (by omega)
    have hkm : (k : Int) < (m : Int) := by omega
    have hk0 : (0 : Int) <= (k : Int) := by omega
    have hkn : IntKind.i64.wrap ((k : Int) + 1) = ((k + 1 : Nat) : Int) := by rw [IntWalk.i64_in _ (by omega)];omega
    have hef1 := hef.out
    rw [hdrop] at hef1
    conv at hef1 => rhs;unfold walkLR
    have HEF1 := Lib.hid hef1
    have HRB := Lib.hid hrb
    have HKP : Hid (∀ w5,RB R wr.drew.heap.size wr.drew w5 -> w5.cell? ⟨X,2,none⟩ = some (.int .i64 n.2.2) ∧ w5.cell? ⟨b,off + k,none⟩ = some (.string (ofBytes s))) := fun w5 hb5 =>
     ⟨(hb5.cell (b := X) (off := 2) hXr hfX).trans x2,(hb5.cell (b := b) (off := off + k) (by show b < wr.heap.size;omega) hbF).trans hcs'⟩
    clear hcb hbW hbR hbF hdrop hs hef hef1 hrb
    by_cases hn2 : n.1 = 2
    ·have hk2 : ((n.1 : Int) != 2) = false := by rw [hn2];rfl
     have HEF2 := Lib.hid (HEF1.out.trans (if_neg (by omega)))
     have hokf := findR_ok hst.out n.2.2 s
     have hln := findR_line (fed := fed) (top := n.2.2) (s := s) (st := st')
     have hFC := HFI.out n.2.2 s st' wr.drew htn hrs hst.out hrf.drew'
     rw [bytesOf_ofBytes] at hFC
     have hn01 : (n.2.2 : Int) < 1024 := by omega
     clear HEF1 hrf
     generalize findR fed n.2.2 s st' = r2 at *
     obtain ⟨⟨ln2,no⟩,st2⟩ := r2
     unfold encFd2 at hFC
     have HFC := Lib.hid hFC
     have HLN := Lib.hid hln
     simp only at *
     have HCO : Hid (CellsAt wr.drew W.heap.size 3 z3 ∧ FreeAt R wr.drew W.heap.size ∧ CellsAt wr.drew X 3 (ndC n) ∧ FreeAt R wr.drew X) := ⟨hcO,hfO,hcX,hfX⟩
     have HRB2 := Lib.hid (HRB.out.trans (RB.drew' _ _ wr))
     have hsd : wr.drew.heap.size = wr.heap.size := rfl
     clear hFC hln hcO hfO hcX hfX hcs
     by_cases hno : no = 0
     ·subst hno
      have hl2 := HLN.out rfl
      have hoke := enterR_ok hokf ln2
      have htp := enterR_top (fed := fed) (line := ln2) (st := st2)
      have HEC := Lib.hid (fun W1 h1 => HEN.out ln2 st2 W1 hl2 hokf h1)
      have hef3 := HEF2.out.trans (if_neg (by simp))
      have HEF3 := Lib.hid hef3
      clear HEF2 hef3
      generalize enterR fed ln2 st2 = r3 at *
      obtain ⟨⟨n3,is3⟩,st3⟩ := r3
      have HTP := Lib.hid htp
      have HEV : Hid (encNd n3 = .agg #[.int .i64 n3.1,.int .i64 n3.2.1,.int .i64 n3.2.2]) := rfl
      simp only at *
      rw [HEV.out] at HEC
      have HOKE := Lib.hid hoke
      clear htp hoke
      go_wp2_with fail
      go_region_held3 (fun w1 => w1.cell? ⟨X,2,none⟩ = some (.int .i64 n.2.2) ∧ w1.cell? ⟨b,off + k,none⟩ = some (.string (ofBytes s)))
       (first | exact HKP.out _ (RB.refl _ _ _) | exact HKP.out _ (by assumption) | assumption)
       ((go_at_call 70;refine HFC.out.mono ?_;rintro e w5 ⟨rfl,h5,hb5⟩))
      obtain ⟨qcO,qfO,qcX,qfX⟩ := HCO.out
      have kcO := qcO.rb hb5 (by omega) qfO
      have kfO := (hb5.keep W.heap.size (by omega) qfO).2
      have kcX := qcX.rb hb5 (by omega) qfX
      have kfX := (hb5.keep X (by omega) qfX).2
      have HB5 := Lib.hid (HRB2.out.trans (hb5.mono (by omega)))
      have hs5 := hb5.size
      clear qcO qfO qcX qfX hb5
      go_wp2_with fail
      refine (HEC.out _ h5).mono ?_
      rintro e w6 ⟨rfl,h6,hb6⟩
      have lcO := kcO.rb hb6 (by omega) kfO
      have lfO := (hb6.keep W.heap.size (by omega) kfO).2
      have lcX := kcX.rb hb6 (by omega) kfX
      have lfX := (hb6.keep X (by omega) kfX).2
      have HB6 := Lib.hid (HB5.out.trans (hb6.mono (by omega)))
      have hs6 := hb6.size
      clear kcO kfO kcX kfX hb6 h5
      have v0 : w6.cell? ⟨X,0,none⟩ = some (.int .i64 n.1) := lcX.1 0 (by omega)
      have v1 : w6.cell? ⟨X,1,none⟩ = some (.int .i64 n.2.1) := lcX.1 1 (by omega)
      have v2 : w6.cell? ⟨X,2,none⟩ = some (.int .i64 n.2.2) := lcX.1 2 (by omega)
      have u0 := lcX.2 0
      have u1 := lcX.2 1
      have u2 := lcX.2 2
      obtain ⟨w7,hw7⟩ : ∃ w7,put3 w6 X n3.1 n3.2.1 n3.2.2 = w7 := ⟨_,rfl⟩
      have h7 : RfAt R _ nf cf fed st3 w7 := hw7 ▸ h6.put3 lfX (by omega)
      have HB7 : Hid (RB R W.heap.size W w7) := hw7 ▸ HB6.out.put3 (by omega) lfX.1
      have hs7 : X < w7.heap.size := by rw [<- hw7,put3_size];omega
      have mcO : CellsAt w7 W.heap.size 3 z3 := hw7 ▸ lcO.put3o (by omega)
      have mfO : FreeAt R w7 W.heap.size := hw7 ▸ lfO.put3 lfX.1
      have mcX : CellsAt w7 X 3 (ndC n3) := hw7 ▸ lcX.put3n n3
      have mfX : FreeAt R w7 X := hw7 ▸ lfX.put3 lfX.1
      unfold put3 at hw7
      clear lcO lfO lcX lfX h6
      cases is3
      ·have HEF4 : Hid (walkR fed nm st = ((0,(0,0,0),300),st3)) := HEF3.out.trans (if_neg (by simp))
       have H8 := Lib.hid (h7.put3 (a := 0) (b := 0) (c := 0) mfO (by omega))
       have HB8 := Lib.hid (HB7.out.put3 (a := 0) (b := 0) (c := 0) (Nat.le_refl _) mfO.1)
       unfold put3 at H8 HB8
       have y0 := mcO.1 0 (by omega)
       have y1 := mcO.1 1 (by omega)
       have y2 := mcO.1 2 (by omega)
       have z0 := mcO.2 0
       have z1 := mcO.2 1
       have z2 := mcO.2 2
       unfold z3 at y0 y1 y2
       clear mcO mfO mcX mfX h7
       go_wp2_with fail
       rw [HEF4.out]
       refine bodyPost_ret (v := encWV (0,(0,0,0),300)) (by simp [results,Tryz.results40,go_sem,y0,y1,y2,z0,z1,z2,encWV,encNd,encN]) rfl ?_
       exact ⟨rfl,H8.out,HB8.out⟩
      ·have HEF4 : Hid (walkR fed nm st = walkLR fed (nm.drop (k + 1)) ln2 n3 st3) := HEF3.out.trans (if_pos rfl)
       have HN3 := Lib.hid (HTP.out rfl)
       go_wp2_with fail
       go_roundw
       case rel => exact ⟨k + 1,ln2,n3,st3,by omega,HN3.out,rfl,rfl,h7,HB7.out,hs7,⟨mcO,mfO,mcX,mfX⟩,HEF4.out,HOKE.out⟩
       case measure => simp [intOf];omega
     ·have hno' : ((no : Int) != 0) = true := by rw [bne_iff_ne];omega
      have HEF3 : Hid (walkR fed nm st = ((0,(0,0,0),no),st2)) := HEF2.out.trans (if_pos hno)
      clear HEF2 hno
      go_wp2_with fail
      go_region_held3 (fun w1 => w1.cell? ⟨X,2,none⟩ = some (.int .i64 n.2.2) ∧ w1.cell? ⟨b,off + k,none⟩ = some (.string (ofBytes s)))
       (first | exact HKP.out _ (RB.refl _ _ _) | exact HKP.out _ (by assumption) | assumption)
       ((go_at_call 70;refine HFC.out.mono ?_;rintro e w5 ⟨rfl,h5,hb5⟩))
      obtain ⟨qcO,qfO,qcX,qfX⟩ := HCO.out
      have kcO := qcO.rb hb5 (by omega) qfO
      have kfO := (hb5.keep W.heap.size (by omega) qfO).2
      have HB5 := Lib.hid (HRB2.out.trans (hb5.mono (by omega)))
      have y0 : w5.cell? ⟨W.heap.size,0,none⟩ = some (.int .i64 0) := kcO.1 0 (by omega)
      have y1 : w5.cell? ⟨W.heap.size,1,none⟩ = some (.int .i64 0) := kcO.1 1 (by omega)
      have y2 : w5.cell? ⟨W.heap.size,2,none⟩ = some (.int .i64 0) := kcO.1 2 (by omega)
      have z0 := kcO.2 0
      have z1 := kcO.2 1
      have z2 := kcO.2 2
      have H8 := Lib.hid (h5.put3 (a := 0) (b := 0) (c := 0) kfO (by omega))
      have HB8 := Lib.hid (HB5.out.put3 (a := 0) (b := 0) (c := 0) (Nat.le_refl _) kfO.1)
      clear qcO qfO qcX qfX hb5 kcO kfO h5
      go_wp2_with fail
      unfold put3 at H8 HB8
      rw [HEF3.out]
      refine bodyPost_ret (v := encWV (0,(0,0,0),no)) (by simp [results,Tryz.results40,go_sem,y0,y1,y2,z0,z1,z2,encWV,encNd,encN]) rfl ?_
      exact ⟨rfl,H8.out,HB8.out⟩
    ·have hk2 : ((n.1 : Int) != 2) = true := by rw [bne_iff_ne];omega
     have HEF2 : Hid (walkR fed nm st = ((0,(0,0,0),201),st')) := by rw [Hid,HEF1.out,if_pos hn2]
     have H3 := Lib.hid (hrf.put3 (a := 0) (b := 0) (c := 0) hfO (by omega))
     have HB3 := Lib.hid (HRB.out.put3 (a := 0) (b := 0) (c := 0) (Nat.le_refl _) hfO.1)
     unfold put3 at H3 HB3
     have y0 := hcO.1 0 (by omega)
     have y1 := hcO.1 1 (by omega)
     have y2 := hcO.1 2 (by omega)
     have z0 := hcO.2 0
     have z1 := hcO.2 1
     have z2 := hcO.2 2
     unfold z3 at y0 y1 y2
     clear hrf hcO hfO hcX hfX hn2
     go_wp2_with fail
     rw [HEF2.out]
     refine bodyPost_ret (v := encWV (0,(0,0,0),201)) (by simp [results,Tryz.results40,go_sem,y0,y1,y2,z0,z1,z2,encWV,encNd,encN]) rfl ?_
     exact ⟨rfl,H3.out,HB3.out⟩
   ·have hkm : k = m := by omega
    subst hkm
    have HEF2 : Hid (walkR fed nm st = ((ln,n,0),st')) := by
     rw [Hid,hef.out,List.drop_eq_nil_of_le (by rw [HM.out];exact Nat.le_refl _)]
     rfl
    have x0 : wr.cell? ⟨X,0,none⟩ = some (.int .i64 n.1) := hcX.1 0 (by omega)
    have x1 : wr.cell? ⟨X,1,none⟩ = some (.int .i64 n.2.1) := hcX.1 1 (by omega)
    have x2 : wr.cell? ⟨X,2,none⟩ = some (.int .i64 n.2.2) := hcX.1 2 (by omega)
    have y0 := hcO.1 0 (by omega)
    have y1 := hcO.1 1 (by omega)
    have y2 := hcO.1 2 (by omega)
    have z0 := hcO.2 0
    have z1 := hcO.2 1
    have z2 := hcO.2 2
    unfold z3 at y0 y1 y2
    have H3 := Lib.hid (hrf.put3 (a := n.1) (b := n.2.1) (c := n.2.2) hfO (by omega))
    have HB3 := Lib.hid (hrb.put3 (a := n.1) (b := n.2.1) (c := n.2.2) (Nat.le_refl _) hfO.1)
    unfold put3 at H3 HB3
    clear hrf hrb hcO hfO hcX hfX hef
    go_wp2_with fail
    go_region
    all_goals
     go_wp2_with fail
     rw [HEF2.out]
     refine bodyPost_ret (v := encWV (ln,n,0)) (by simp [results,Tryz.results40,go_sem,y0,y1,y2,z0,z1,z2,encWV,encNd,encN]) rfl ?_
     exact ⟨rfl,H3.out.drew',HB3.out.trans (RB.drew' _ _ _)⟩
end
section
open Go.RowKit
def NodeOK (n : Nat × Nat × Nat) : Prop := n.1 < 1000 ∧ n.2.1 < 1000 ∧ n.2.2 < 1024 ∧ 1 <= n.2.2
theorem getN_ok {k t : Nat} (h : (getN k t).2 = true) : NodeOK (getN k t).1 := by
 unfold getN at h ⊢
 cases hn : nodeP k t with
 | none => rw [hn] at h;cases h
 | some n =>
  unfold nodeP at hn
  split at hn
  ·rename_i hh
   cases hn
   unfold NodeOK
   simp only
   omega
  ·cases hn
section
variable {fed : List Nat}
theorem walkLR_good : ∀ (names : List (List UInt8)) (line : Nat) (n : Nat × Nat × Nat) (st : RSt),NodeOK n -> (walkLR fed names line n st).1.2.2 = 0 -> NodeOK (walkLR fed names line n st).1.2.1
 | [],_,_,_,hn,_ => hn
 | s :: l,_,n,st,hn,h => by
  unfold walkLR at h ⊢
  split
  ·rename_i h1
   rw [if_pos h1] at h
   cases h
  ·rename_i h1
   rw [if_neg h1] at h
   split
   ·rename_i h2
    rw [if_pos h2] at h
    exact absurd h h2
   ·rename_i h2
    rw [if_neg h2] at h
    split
    ·rename_i h3
     rw [if_pos h3] at h
     exact walkLR_good l _ _ _ (getN_ok h3) h
    ·rename_i h3
     rw [if_neg h3] at h
     cases h
theorem walkR_good (names : List (List UInt8)) (st : RSt) (h : (walkR fed names st).1.2.2 = 0) : NodeOK (walkR fed names st).1.2.1 := by
 unfold walkR at h ⊢
 split
 ·rename_i h1
  rw [if_pos h1] at h
  refine walkLR_good names _ _ _ ?_ h
  unfold rootR at h1 ⊢
  split
  ·rename_i hb
   rw [if_pos hb] at h1
   cases h1
  ·rename_i hb
   rw [if_neg hb] at h1
   exact getN_ok h1
 ·rename_i h1
  rw [if_neg h1] at h
  cases h
theorem walkLR_ok : ∀ (names : List (List UInt8)) (line : Nat) (n : Nat × Nat × Nat) (st : RSt),OkSt fed st -> OkSt fed (walkLR fed names line n st).2
 | [],_,_,_,hn => hn
 | s :: l,_,n,st,hn => by
  unfold walkLR
  split
  ·exact hn
  ·split
   ·exact findR_ok hn _ _
   ·split
    ·exact walkLR_ok l _ _ _ (enterR_ok (findR_ok hn _ _) _)
    ·exact enterR_ok (findR_ok hn _ _) _
theorem walkR_ok (names : List (List UInt8)) (st : RSt) (h : OkSt fed st) : OkSt fed (walkR fed names st).2 := by
 unfold walkR
 split
 ·exact walkLR_ok names _ _ _ (rootR_ok h)
 ·exact rootR_ok h
def askOR (k : Int) (a n : Nat) (fed : List Nat) (t : WalkV) (st : RSt) : ResP × RSt :=
 if t.2.2 ≠ 0 then (failsR t.2.2,st) else
 if k = 1 then statR fed t.2.1 st else
 if k = 2 then (if t.2.1.1 ≠ 2 then (failsR 201,st) else listR fed t.2.1 st) else
 if t.2.1.1 ≠ 1 then (failsR 204,st) else readRR fed t.2.1.2.2 a n st
def askR (k : Int) (a n : Nat) (fed : List Nat) (names : List (List UInt8)) (st : RSt) : ResP × RSt := askOR k a n fed (walkR fed names st).1 (walkR fed names st).2
theorem sizeR_more (top : Nat) (l : List Nat) : (sizeR fed top (l,true)).2 = (l,true) := rfl
theorem readRR_more (top a n : Nat) (l : List Nat) : (readRR fed top a n (l,true)).2 = (l,true) := by
 unfold readRR
 rw [sizeR_more]
 split
 ·exact readBR_more top _ a n l 7 0 []
 ·rfl
theorem askOR_more (k : Int) (a n : Nat) (t : WalkV) (l : List Nat) : (askOR k a n fed t (l,true)).2 = (l,true) := by
 unfold askOR
 split
 ·rfl
 ·split
  ·exact statR_more _ _
  ·split
   ·split
    ·rfl
    ·exact listR_more _ _
   ·split
    ·rfl
    ·exact readRR_more _ _ _ _
theorem walk_sim' (names : List (List UInt8)) : Sim (fun t r => r = (t.1,t.2,0)) (fun c r => r = (0,(0,0,0),c) ∧ c ≠ 0) (walkF names fed []) (walkR fed names ([],false)) := by
 have h := walk_sim (fed := fed) names
 have hg := walkR_good (fed := fed) names ([],false)
 have he : walkedP fed names = walkF names fed [] := rfl
 rw [he] at h
 unfold SimW at h
 unfold Sim
 cases hw : walkF names fed [] with
 | val t l =>
  rw [hw] at h
  simp only at h ⊢
  rw [h]
  exact ⟨rfl,rfl⟩
 | stop o l =>
  rw [hw] at h
  cases o with
  | err c =>
   simp only at h ⊢
   rw [h] at hg ⊢
   refine ⟨⟨rfl,fun hc => ?_⟩,rfl⟩
   have := (hg hc).2.2.2
   exact absurd this (by simp)
  | need p =>
   simp only at h ⊢
   exact h
theorem ask_sim (names : List (List UInt8)) (k : Int) (a n : Nat) : Sim Same1 Fails1 (lookF names k a n fed []) (askR k a n fed names ([],false)) := by
 unfold lookF askR
 refine (walk_sim' names).bind (H := fun t st => askOR k a n fed t st) (fun t r l e => ?_) (fun c r l e => ?_) (fun r l => askOR_more k a n r l)
 ·subst e
  show Sim Same1 Fails1 (if k = 1 then statE fed t.2 l else if k = 2 then listE fed t.2 l else readEF fed t.2 a n l)
   (if k = 1 then statR fed t.2 (l,false) else if k = 2 then (if t.2.1 ≠ 2 then (failsR 201,(l,false)) else listR fed t.2 (l,false)) else if t.2.1 ≠ 1 then (failsR 204,(l,false)) else readRR fed t.2.2.2 a n (l,false))
  by_cases h1 : k = 1
  ·rw [if_pos h1,if_pos h1]
   exact stat_sim _ _
  ·rw [if_neg h1,if_neg h1]
   by_cases h2 : k = 2
   ·rw [if_pos h2,if_pos h2]
    by_cases h3 : t.2.1 = 2
    ·rw [if_neg (by simpa using h3)]
     exact list_sim _ _ h3
    ·rw [if_pos h3]
     unfold listE
     rw [if_neg h3]
     exact ⟨rfl,rfl⟩
   ·rw [if_neg h2,if_neg h2]
    unfold readEF
    by_cases h3 : t.2.1 = 1
    ·rw [if_pos h3,if_neg (by simpa using h3)]
     exact read_simE _ _ _ _
    ·rw [if_neg h3,if_pos h3]
     exact ⟨rfl,rfl⟩
 ·obtain ⟨rfl,h0⟩ := e
  unfold askOR
  rw [if_pos h0]
  exact ⟨rfl,rfl⟩
end
end
end Go.Proofs.YtdpooagnbmpinaaGreatDoor
