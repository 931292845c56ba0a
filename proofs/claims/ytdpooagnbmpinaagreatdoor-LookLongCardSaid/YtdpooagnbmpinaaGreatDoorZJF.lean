import Derived.Test.YtdpooagnbmpinaaGreatDoorZJB
import Derived.Test.YtdpooagnbmpinaaGreatDoorZM3
namespace Go.Proofs.YtdpooagnbmpinaaGreatDoor
section
open Go.RowKit
attribute [local go_sem] Oper.semAt_some
theorem link_stepF {fed : List Nat} {fuel x cnt : Nat} {acc : List (List UInt8)} {st : RSt} (h0 : x ≠ 0) (h1 : x <= 1023) : linkR false fed (fuel + 1) x cnt acc st = linkR false fed fuel (loadR fed (x * 8) st).1 (cnt + 1) acc (loadR fed (x * 8) st).2 := by
 conv => lhs;unfold linkR
 rw [if_neg h0,if_neg (by omega),if_neg (by simp)]
theorem link_stepT {fed : List Nat} {fuel x cnt : Nat} {acc : List (List UInt8)} {st : RSt} (h0 : x ≠ 0) (h1 : x <= 1023) : linkR true fed (fuel + 1) x cnt acc st =
  if (nameR fed x st).1.2 then linkR true fed fuel (loadR fed (x * 8) (nameR fed x st).2).1 (cnt + 1) (acc ++ [(nameR fed x st).1.1]) (loadR fed (x * 8) (nameR fed x st).2).2 else ((0,[],false),(nameR fed x st).2) := by
 conv => lhs;unfold linkR
 rw [if_neg h0,if_neg (by omega),if_pos rfl]
theorem link_full {named : Bool} {fed : List Nat} {x cnt : Nat} {acc : List (List UInt8)} {st : RSt} (h0 : x ≠ 0) : linkR named fed 0 x cnt acc st = ((0,[],false),st) := by
 unfold linkR;rw [if_neg h0]
def lenV : Value -> Nat
 | .slice _ n _ => n
 | _ => 0
variable {R : Nat} {FA : Option Addr} {nf cf : Nat} {fed : List Nat} {st : RSt}
def ChainPost (R : Nat) (FA : Option Addr) (nf cf : Nat) (fed : List Nat) (W : World) (r : LinkV × RSt) (e : Ending) (W' : World) : Prop :=
 ∃ A1 c1 A2 n2 c2,e = .returned (.tuple #[.slice A1 r.1.1 c1,.slice A2 n2 c2,.bool r.1.2.2]) ∧ r.1.1 <= c1 ∧ r.1.1 <= 1024 ∧ r.1.2.1.length = n2 ∧ n2 <= 1024 ∧ RowAt W' A2 (r.1.2.1.map encT) ∧ RfAt R FA nf cf fed r.2 W' ∧ OkSt fed r.2 ∧ RB R W.heap.size W W'
set_option maxRecDepth 200000 in
set_option maxHeartbeats 16000000 in
theorem chainR_any (named : Bool) (top b : Nat) (W : World) (htop : top < 1024) (hb : b < 7) (hok : OkSt fed st) (hnf : nf <= 20000) (hx64 : ∀ x ∈ fed,x < 18446744073709551616) (h : RfAt R FA nf cf fed st W) :
  Calls Tryz.prog 73 #[.pointer (some ⟨R,0,none⟩),.int .i64 top,.int .i64 b,.bool named] W (ChainPost R FA nf cf fed W (chainRR named fed top b st)) := by
 obtain ⟨i0,hi,hz0,hz1,hz2⟩ := info_parts Tryz.infoInt
 obtain ⟨i1,hi1,hu0,hu1,hu2⟩ := info_parts Tryz.infoStr
 have hnfl : fed.length = nf := h.rd.fedl
 have hlen : ∀ st' : RSt,OkSt fed st' -> st'.1.length <= 20001 := fun st' h' => by have := h'.1;omega
 have HLD := Lib.hid (fun (p : Nat) (q : Int) (st' : RSt) (W1 : World) (hq : q = (p : Int)) (hst : OkSt fed st') (h1 : RfAt R FA nf cf fed st' W1) => loadR_any p q W1 hq (by have := hlen st' hst;omega) (by omega) hx64 h1)
 have HLT := Lib.hid (fun p (st' : RSt) => loadR_lt (fed := fed) hx64 p st')
 have HCR : Hid (linkR named fed (1024 - 0) (loadR fed (top * 8 + b) st).1 0 [] (loadR fed (top * 8 + b) st).2 = chainRR named fed top b st) := rfl
 have HR := Lib.hid h
 have HOK := Lib.hid hok
 have hRl := h.rd.lt
 have ht0 : (0 : Int) <= 8 * (top : Int) := by omega
 have ht1 : 8 * (top : Int) <= 8192 := by omega
 have hb0 : (0 : Int) <= (b : Int) := by omega
 have hb7 : (b : Int) < 7 := by omega
 generalize chainRR named fed top b st = r at *
 clear h hok hlen hx64
 go_enter Tryz.func73,Tryz.ntmps73
 go_wp2_with fail
 refine (HLD.out (top * 8 + b) _ st W (by omega) HOK.out HR.out).mono ?_
 rintro e w1 ⟨rfl,h1,hb1⟩
 have HX1 := Lib.hid (HLT.out (top * 8 + b) st)
 have HOK1 := Lib.hid (loadR_ok HOK.out (top * 8 + b))
 have HR1 := Lib.hid h1
 have HB1 := Lib.hid hb1
 generalize loadR fed (top * 8 + b) st = r1 at *
 obtain ⟨x1,st1⟩ := r1
 simp only at HR1 HX1 HOK1 HCR ⊢
 clear h1 hb1
 go_wp2_with fail
 go_loopw [11,12,13] (fun v1 v2 v3 wr => ∃ (cnt x : Nat) (acc : List (List UInt8)) (st' : RSt) (ls : List Value),cnt <= 1024 ∧ x < 18446744073709551616 ∧ v3 = .int .u64 x ∧ Hid (linkR named fed (1024 - cnt) x cnt acc st' = r) ∧ Hid (OkSt fed st') ∧ Hid (RfAt R FA nf cf fed st' wr) ∧ Hid (RB R W.heap.size W wr) ∧ Hid (wr.ownsRow W.heap.size 3 1 v1 cnt ls) ∧ Hid (OffR R wr v1) ∧ acc.length <= cnt ∧ Hid (wr.ownsRow W.heap.size 9 1 v2 acc.length (acc.map encT)) ∧ Hid (OffR R wr v2)) (fun v1 _ _ _ => 1025 - lenV v1)
 case atStart => exact ⟨0,x1,[],st1,[],Nat.zero_le _,HX1.out,rfl,HCR,HOK1,HR1,HB1,World.ownsRow_nil _ _ _ _,(fun b hb => by cases hb),Nat.zero_le _,World.ownsRow_nil _ _ _ _,(fun b hb => by cases hb)⟩
 case round =>
  obtain ⟨cnt,x,acc,st',ls,hc,hx,rfl,HE,HOKr,HRF,HRB,HO1,HF1,hal,HO2,HF2⟩ := hrel
  obtain ⟨A1,c1,e1,hc1,hcm1⟩ := owns_slice HO1.out
  obtain ⟨A2,c2,e2,hc2,hcm2⟩ := owns_slice HO2.out
  subst e1 e2
  have hsz := HRB.out.size
  have hal2 : acc.length <= 1024 := by omega
  obtain ⟨na,hna⟩ : ∃ na,acc.length = na := ⟨_,rfl⟩
  rw [hna] at hc2 hal2 HO2 HF2 ⊢
  have HNA := Lib.hid hna
  have hnc : na <= cnt := by omega
  clear hna hal
  by_cases h0 : x = 0
  ·subst h0
   have HE0 : Hid (((cnt,acc,true),st') = r) := by rw [Hid,<- HE.out,link_zero]
   go_wp2_with fail
   go_ret3
   rw [<- HE0.out]
   exact ⟨A1,c1,A2,na,c2,rfl,hc1,hc,HNA.out,hal2,row_of_own HO2.out,HRF.out,HOKr.out,HRB.out⟩
  ·have q0 : ((x : Int) != 0) = true := by rw [bne_iff_ne];omega
   by_cases h1 : 1023 < x
   ·have q1 : decide ((1023 : Int) < (x : Int)) = true := decide_eq_true (by omega)
    have HE0 : Hid (((0,[],false),st') = r) := by rw [Hid,<- HE.out,link_big h1]
    clear h0 h1
    go_wp2_with fail
    go_ret3
    rw [<- HE0.out]
    exact ⟨none,0,none,0,0,rfl,Nat.le_refl _,by simp,rfl,by omega,RowAt.nil,HRF.out,HOKr.out,HRB.out⟩
   ·have q1 : decide ((1023 : Int) < (x : Int)) = false := decide_eq_false (by omega)
    by_cases hfull : cnt = 1024
    ·subst hfull
     have HE0 : Hid (((0,[],false),st') = r) := by rw [Hid,<- HE.out,link_full h0]
     clear h0 h1
     go_wp2_with fail
     go_ret3
     rw [<- HE0.out]
     exact ⟨none,0,none,0,0,rfl,Nat.le_refl _,by simp,rfl,by omega,RowAt.nil,HRF.out,HOKr.out,HRB.out⟩
    ·have q2 : decide ((1024 : Int) <= (cnt : Int)) = false := decide_eq_false (by omega)
     obtain ⟨f,hf⟩ : ∃ f,1024 - cnt = f + 1 := ⟨1023 - cnt,by omega⟩
     have hf2 : 1024 - (cnt + 1) = f := by omega
     have hx1 : x <= 1023 := by omega
     have hxi : (x : Int) <= 1023 := by omega
     have hbA : Below wr.heap.size wr (wr.alloc (.cells #[.int .i64 x] 3)) := (Below.refl _ _).alloc (Nat.le_refl _) _
     have HRFA := Lib.hid (HRF.out.below hbA)
     have HRBA := Lib.hid (HRB.out.trans ((RB.of_below hbA (by omega)).mono hsz))
     have HFA1 : Hid (OffR R (wr.alloc (.cells #[.int .i64 x] 3)) (.slice A1 cnt c1)) := fun b hb => freeAt_below hbA (by omega) (HF1.out b hb)
     have HFA2 : Hid (OffR R (wr.alloc (.cells #[.int .i64 x] 3)) (.slice A2 na c2)) := fun b hb => freeAt_below hbA (by omega) (HF2.out b hb)
     have H1 : Hid (∀ u ∈ [Value.int .i64 (x : Int)],u.oneCell' = true) := fun u hu => by rw [List.mem_singleton.1 hu];rfl
     clear hbA h1
     go_wp2_with (at_builtin;refine wpList_append_lies _ rfl (.tmp 34) (.tmp 37) 72 rfl W.heap.size 3 i0 (.int .i64 0) 1 8 Tryz.underlying72 hi hz0 hz1 hz2 rfl (by decide) (.slice A1 cnt c1) cnt ls rfl (HO1.out.alloc _) ⟨wr.heap.size,0,none⟩ 1 1 [.int .i64 x] rfl rfl ?c0 H1.out (by decide) ?c1 ?c2 ?c3 (wr.heap.size + 1) (by simp) ?_)
     case c0 => exact World.news_of_block (World.alloc_heap_new _ _)
     case c1 => unfold maxLen;omega
     case c2 => omega
     case c3 => simp;omega
     intro g cap w2 hown2 hg2 hcase hgl
     obtain ⟨k1,k2,k3⟩ := append_beside HRFA.out HRBA.out (by simp;omega) hRl (Nat.le_refl _) (HO1.out.alloc _) HFA1.out hown2 hg2 (hcase.imp (fun e => e.symm) (fun e => by rw [e];simp [Value.ownBlock]))
     obtain ⟨m1,m2⟩ := other_beside HRFA.out (HO1.out.alloc _) HFA1.out hRl (HO2.out.alloc _) HFA2.out (by decide) hg2
     have K1 := Lib.hid k1
     have K2 := Lib.hid k2
     have K3 := Lib.hid k3
     have M1 := Lib.hid m1
     have M2 := Lib.hid m2
     have HW2 := Lib.hid hown2
     have hs2 := k2.size
     clear k1 k2 k3 m1 m2 hown2 hg2 hcase HRFA HRBA HFA1 HFA2 H1
     cases named with
     | false =>
      have HE1 : Hid (linkR false fed f (loadR fed (x * 8) st').1 (cnt + 1) acc (loadR fed (x * 8) st').2 = r) := by rw [Hid,<- HE.out,hf,link_stepF h0 hx1]
      clear h0 hf
      go_wp2_with fail
      refine (HLD.out (x * 8) _ st' w2 (by omega) HOKr.out K1.out).mono ?_
      rintro e w3 ⟨rfl,h3,hb3⟩
      obtain ⟨n1,n2⟩ := own_rb HW2.out K3.out hb3
      obtain ⟨n3,n4⟩ := own_rb M1.out M2.out hb3
      have HX3 := Lib.hid (HLT.out (x * 8) st')
      have HOK3 := Lib.hid (loadR_ok HOKr.out (x * 8))
      have H3 := Lib.hid h3
      have HB3 := Lib.hid (K2.out.trans (hb3.mono hs2))
      have N1 := Lib.hid n1
      have N2 := Lib.hid n2
      have N3 := Lib.hid n3
      have N4 := Lib.hid n4
      clear h3 hb3 n1 n2 n3 n4
      go_wp2_with fail
      go_roundw
      case rel => exact ⟨cnt + 1,_,acc,_,ls ++ [.int .i64 x],by omega,HX3.out,rfl,by rw [Hid,hf2];exact HE1.out,HOK3,H3,HB3,N1,N2,by rw [HNA.out];omega,by rw [Hid,HNA.out];exact N3.out,N4⟩
      case measure => simp [lenV];omega
     | true =>
      have HE1 : Hid ((if (nameR fed x st').1.2 then linkR true fed f (loadR fed (x * 8) (nameR fed x st').2).1 (cnt + 1) (acc ++ [(nameR fed x st').1.1]) (loadR fed (x * 8) (nameR fed x st').2).2 else ((0,[],false),(nameR fed x st').2)) = r) := by rw [Hid,<- HE.out,hf,link_stepT h0 hx1]
      clear h0 hf
      go_wp2_with fail
      refine (HLD.out (x * 8 + 2) _ st' w2 (by omega) HOKr.out K1.out).mono ?_
      rintro e w3 ⟨rfl,h3,hb3⟩
      obtain ⟨n1,n2⟩ := own_rb HW2.out K3.out hb3
      obtain ⟨n3,n4⟩ := own_rb M1.out M2.out hb3
      have HXN := Lib.hid (HLT.out (x * 8 + 2) st')
      have HOK3 := Lib.hid (loadR_ok HOKr.out (x * 8 + 2))
      have HNR : Hid (nameR fed x st' = (nameOf (loadsR fed 5 (x * 8 + 3) [] (loadR fed (x * 8 + 2) st').2).1 (loadR fed (x * 8 + 2) st').1,(loadsR fed 5 (x * 8 + 3) [] (loadR fed (x * 8 + 2) st').2).2)) := rfl
      have H3 := Lib.hid h3
      have HB3 := Lib.hid (K2.out.trans (hb3.mono hs2))
      generalize nameR fed x st' = nr at *
      generalize loadR fed (x * 8 + 2) st' = r2 at *
      obtain ⟨nb,st2⟩ := r2
      simp only at HXN HOK3 HNR H3 ⊢
      obtain ⟨T,hT⟩ : ∃ T,loadsR fed 5 (x * 8 + 3) [] st2 = T := ⟨_,rfl⟩
      rw [hT] at HNR
      obtain ⟨Z,hZ⟩ : ∃ Z,w3.heap.size = Z := ⟨_,rfl⟩
      have hZB : W.heap.size <= Z := by have := HB3.out.size;omega
      have HL1 : Hid (∀ b,(Value.slice (some ⟨g,0,none⟩) (cnt + 1) cap).ownBlock = some b -> b < Z) := fun b hb => by have := (n1.lt b hb).2;omega
      have HL2 : Hid (∀ b,(Value.slice A2 na c2).ownBlock = some b -> b < Z) := fun b hb => by have := (n3.lt b hb).2;omega
      have hbZ : Below w3.heap.size w3 (w3.alloc (.cells #[.int .u64 0,.int .u64 0,.int .u64 0,.int .u64 0,.int .u64 0] 190)) := (Below.refl _ _).alloc (Nat.le_refl _) _
      have HZ0 : Hid (CellsAt (w3.alloc (.cells #[.int .u64 0,.int .u64 0,.int .u64 0,.int .u64 0,.int .u64 0] 190)) Z 5 (wordsC [])) := by
       rw [Hid,<- hZ]
       exact cellsAt_new _ _ _ _ _ fun i hi => match i,hi with | 0,_ => rfl | 1,_ => rfl | 2,_ => rfl | 3,_ => rfl | 4,_ => rfl
      have HZF : Hid (FreeAt R (w3.alloc (.cells #[.int .u64 0,.int .u64 0,.int .u64 0,.int .u64 0,.int .u64 0] 190)) Z) := h3.rd.free_new hbZ (by omega)
      have HZR := Lib.hid (h3.below hbZ)
      have HZB := Lib.hid (HB3.out.trans ((RB.of_below hbZ h3.rd.lt).mono (by omega)))
      have HZ1 := Lib.hid (n1.alloc (.cells #[.int .u64 0,.int .u64 0,.int .u64 0,.int .u64 0,.int .u64 0] 190))
      have HZ2 : Hid (OffR R (w3.alloc (.cells #[.int .u64 0,.int .u64 0,.int .u64 0,.int .u64 0,.int .u64 0] 190)) (.slice (some ⟨g,0,none⟩) (cnt + 1) cap)) := fun b hb => freeAt_below hbZ h3.rd.lt (n2 b hb)
      have HZ3 := Lib.hid (n3.alloc (.cells #[.int .u64 0,.int .u64 0,.int .u64 0,.int .u64 0,.int .u64 0] 190))
      have HZ4 : Hid (OffR R (w3.alloc (.cells #[.int .u64 0,.int .u64 0,.int .u64 0,.int .u64 0,.int .u64 0] 190)) (.slice A2 na c2)) := fun b hb => freeAt_below hbZ h3.rd.lt (n4 b hb)
      have HT0 : Hid (loadsR fed (5 - 0) (x * 8 + (3 + 0)) [] st2 = T) := hT
      have hZs : Z < (w3.alloc (.cells #[.int .u64 0,.int .u64 0,.int .u64 0,.int .u64 0,.int .u64 0] 190)).heap.size := by simp;omega
      clear h3 hb3 n1 n2 n3 n4 hbZ hT HRF HRB HO1 HF1 HO2 HF2 K1 K2 K3 M1 M2 HW2 HOKr
      go_wp2_with fail
      obtain ⟨wo,hwo⟩ : ∃ wo : World,wo = wr := ⟨_,rfl⟩
      subst hwo
      go_loopw [16] (fun i wq => ∃ (j : Nat) (ws : List Nat) (sq : RSt),j <= 5 ∧ i = .int .i64 j ∧ Hid (ws.length = j) ∧ Hid (loadsR fed (5 - j) (x * 8 + (3 + j)) ws sq = T) ∧ Hid (OkSt fed sq) ∧ Hid (RfAt R FA nf cf fed sq wq) ∧ Hid (RB R W.heap.size W wq) ∧ Hid (CellsAt wq Z 5 (wordsC ws)) ∧ Hid (FreeAt R wq Z) ∧ Z < wq.heap.size ∧ Hid (∀ y ∈ ws,y < 18446744073709551616) ∧ Hid (wq.ownsRow W.heap.size 3 1 (.slice (some ⟨g,0,none⟩) (cnt + 1) cap) (cnt + 1) (ls ++ [.int .i64 x])) ∧ Hid (OffR R wq (.slice (some ⟨g,0,none⟩) (cnt + 1) cap)) ∧ Hid (wq.ownsRow W.heap.size 9 1 (.slice A2 na c2) na (acc.map encT)) ∧ Hid (OffR R wq (.slice A2 na c2))) (fun i _ => 5 - (intOf i).toNat)
      case atStart => exact ⟨0,[],st2,by omega,rfl,rfl,HT0,HOK3,HZR,HZB,HZ0,HZF,hZs,(fun y hy => by cases hy),HZ1,HZ2,HZ3,HZ4⟩
      case round =>
       clear HZ0 HZF HZR HZB HZ1 HZ2 HZ3 HZ4 HT0 hZs HOK3 H3 HB3
       obtain ⟨j,ws,sq,hj,rfl,HWL,HTT,HOKq,HRq,HBq,HCq,HFq,hZq,HWB,HQ1,HQ2,HQ3,HQ4⟩ := hrel
       by_cases hlt : j < 5
       ·obtain ⟨f5,hf5⟩ : ∃ f5,5 - j = f5 + 1 := ⟨4 - j,by omega⟩
        have hf6 : 5 - (j + 1) = f5 := by omega
        have HT1 : Hid (loadsR fed f5 (x * 8 + (3 + (j + 1))) (ws ++ [(loadR fed (x * 8 + (3 + j)) sq).1]) (loadR fed (x * 8 + (3 + j)) sq).2 = T) := by rw [Hid,<- HTT.out,hf5];rfl
        have hj0 : (0 : Int) <= (j : Int) := by omega
        have hj5 : (j : Int) < 5 := by omega
        clear hf5
        go_wp2_with fail
        refine (HLD.out (x * 8 + (3 + j)) _ sq _ (by omega) HOKq.out HRq.out).mono ?_
        rintro e w5 ⟨rfl,h5,hb5⟩
        have HC5 : Hid (CellsAt w5 Z 5 (wordsC ws)) := ⟨fun i hi => (hb5.cell hZq HFq.out).trans (HCq.out.1 i hi),fun i => (hb5.frozen hZq HFq.out).trans (HCq.out.2 i)⟩
        have hfr5 := (hb5.keep Z hZq HFq.out).2
        have hs5 := hb5.size
        have c5 : w5.cell? ⟨Z,j,none⟩ = some (wordsC ws j) := HC5.out.1 j hlt
        have f5' : w5.frozen? ⟨Z,j,none⟩ = false := HC5.out.2 j
        obtain ⟨o1,o2⟩ := own_rb HQ1.out HQ2.out hb5
        obtain ⟨o3,o4⟩ := own_rb HQ3.out HQ4.out hb5
        have HXL := Lib.hid (HLT.out (x * 8 + (3 + j)) sq)
        have HOK5 := Lib.hid (loadR_ok HOKq.out (x * 8 + (3 + j)))
        generalize loadR fed (x * 8 + (3 + j)) sq = r5 at *
        obtain ⟨y,sy⟩ := r5
        simp only at HT1 h5 HXL HOK5 ⊢
        have HR6 := Lib.hid (h5.set (i := j) (v := .int .u64 y) hfr5 (by omega))
        have HB6 := Lib.hid ((HBq.out.trans (hb5.mono HBq.out.size)).set (i := j) (v := .int .u64 y) hZB hfr5.1)
        have HC6 : Hid (CellsAt (w5.setCell ⟨Z,j,none⟩ (.int .u64 y)) Z 5 (wordsC (ws ++ [y]))) := by
         have := HC5.out.word (x := y) (by rw [HWL.out];exact hlt)
         rwa [HWL.out] at this
        have HF6 := Lib.hid (hfr5.set (B := Z) (i := j) (v := .int .u64 y) hfr5.1)
        have P1 := Lib.hid (o1.kept (grown_set w5 ⟨Z,j,none⟩ (.int .u64 y)) (.inr (fun e => by have := HL1.out Z e;omega)))
        have P2 : Hid (OffR R (w5.setCell ⟨Z,j,none⟩ (.int .u64 y)) (.slice (some ⟨g,0,none⟩) (cnt + 1) cap)) := fun b hb => (o2 b hb).set hfr5.1
        have P3 := Lib.hid (o3.kept (grown_set w5 ⟨Z,j,none⟩ (.int .u64 y)) (.inr (fun e => by have := HL2.out Z e;omega)))
        have P4 : Hid (OffR R (w5.setCell ⟨Z,j,none⟩ (.int .u64 y)) (.slice A2 na c2)) := fun b hb => (o4 b hb).set hfr5.1
        have hZ6 : Z < (w5.setCell ⟨Z,j,none⟩ (.int .u64 y)).heap.size := by simp [World.setCell];omega
        clear h5 hb5 hfr5 o1 o2 o3 o4 HRq HBq HCq HFq HQ1 HQ2 HQ3 HQ4 HTT HOKq
        go_wp2_with fail
        go_roundw
        case rel => exact ⟨j + 1,ws ++ [y],sy,by omega,by go_num,by rw [Hid,List.length_append,HWL.out];rfl,by rw [Hid,hf6];exact HT1.out,HOK5,HR6,HB6,HC6,HF6,hZ6,(fun z hz => by rcases List.mem_append.1 hz with hz | hz;exact HWB.out z hz;rw [List.mem_singleton.1 hz];exact HXL.out),P1,P2,P3,P4⟩
        case measure => simp [intOf];omega
       ·obtain rfl : j = 5 := by omega
        have HTE : Hid ((ws,sq) = T) := HTT.out
        have HNE : Hid (nr = (nameOf ws nb,sq)) := by rw [Hid,HNR.out,<- HTE.out]
        have d0 := HCq.out.1 0 (by omega)
        have d1 := HCq.out.1 1 (by omega)
        have d2 := HCq.out.1 2 (by omega)
        have d3 := HCq.out.1 3 (by omega)
        have d4 := HCq.out.1 4 (by omega)
        unfold wordsC at d0 d1 d2 d3 d4
        obtain ⟨m,hm⟩ : ∃ m : Nat,min nb 99 = m := ⟨_,rfl⟩
        have hmi : min (nb : Int) 99 = (m : Int) := by omega
        have hm9 : (m : Int) <= 99 := by omega
        have hm0 : (0 : Int) <= (m : Int) := by omega
        have hxn := HXN.out
        have HGB : Hid (∀ k,getF ws k < 18446744073709551616) := fun k => by
         unfold getF
         rw [List.getD_eq_getElem?_getD]
         cases hg : ws[k]? with
         | none => show 0 < _;omega
         | some z => exact HWB.out z (List.mem_of_getElem? hg)
        have HRD := Lib.hid (fun W => refRead_any (getF ws) HGB.out (m : Int) W (by simp only [Lit.wf,Bool.and_eq_true,decide_eq_true_eq];constructor;(show (-9223372036854775808 : Int) <= _;omega);show _ <= (9223372036854775807 : Int);omega))
        have HNO : Hid (nameOf ws nb = ((readL (getF ws) (m : Int)).1,(readL (getF ws) (m : Int)).2 == 0)) := by rw [Hid,<- hm];rfl
        clear HTT HNR HTE HWB HGB HWL hm hlt hj
        unfold encF at HRD
        go_wp2_with fail
        refine (HRD.out _).mono ?_
        rintro e w6 ⟨rfl,hb6⟩
        have HR6 := Lib.hid (HRq.out.below hb6)
        have HB6 := Lib.hid (HBq.out.trans ((RB.of_below hb6 (by omega)).mono HBq.out.size))
        have hs6 := hb6.size
        have HP1 := Lib.hid (owns_below HQ1.out hb6)
        have HP2 : Hid (OffR R w6 (.slice (some ⟨g,0,none⟩) (cnt + 1) cap)) := fun b hb => freeAt_below hb6 (by omega) (HQ2.out b hb)
        have HP3 := Lib.hid (owns_below HQ3.out hb6)
        have HP4 : Hid (OffR R w6 (.slice A2 na c2)) := fun b hb => freeAt_below hb6 (by omega) (HQ4.out b hb)
        generalize readL (getF ws) (m : Int) = rl at *
        obtain ⟨nm,er⟩ := rl
        simp only at HNO ⊢
        obtain ⟨okb,hok⟩ : ∃ okb,(er == 0) = okb := ⟨_,rfl⟩
        rw [hok] at HNO ⊢
        clear hok hb6 HRq HBq HQ1 HQ2 HQ3 HQ4 d0 d1 d2 d3 d4 HRD
        cases okb with
        | false =>
         have HE0 : Hid (((0,[],false),sq) = r) := by rw [Hid,<- HE1.out,HNE.out,HNO.out];rfl
         go_wp2_with fail
         go_ret3
         rw [<- HE0.out]
         exact ⟨none,0,none,0,0,rfl,Nat.le_refl _,by simp,rfl,by omega,RowAt.nil,HR6.out,HOKq.out,HB6.out⟩
        | true =>
         have HE2 : Hid (linkR true fed f (loadR fed (x * 8) sq).1 (cnt + 1) (acc ++ [nm]) (loadR fed (x * 8) sq).2 = r) := by rw [Hid,<- HE1.out,HNE.out,HNO.out];rfl
         have hbA : Below w6.heap.size w6 (w6.alloc (.cells #[.string (ofBytes nm)] 9)) := (Below.refl _ _).alloc (Nat.le_refl _) _
         have hw6 : W.heap.size <= w6.heap.size := HB6.out.size
         have HRFA := Lib.hid (HR6.out.below hbA)
         have HRBA := Lib.hid (HB6.out.trans ((RB.of_below hbA (by omega)).mono hw6))
         have HFA1 : Hid (OffR R (w6.alloc (.cells #[.string (ofBytes nm)] 9)) (.slice (some ⟨g,0,none⟩) (cnt + 1) cap)) := fun b hb => freeAt_below hbA (by omega) (HP2.out b hb)
         have HFA2 : Hid (OffR R (w6.alloc (.cells #[.string (ofBytes nm)] 9)) (.slice A2 na c2)) := fun b hb => freeAt_below hbA (by omega) (HP4.out b hb)
         have H1 : Hid (∀ u ∈ [Value.string (ofBytes nm)],u.oneCell' = true) := fun u hu => by rw [List.mem_singleton.1 hu];rfl
         clear hbA
         go_wp2_with (at_builtin;refine wpList_append_lies _ rfl (.tmp 70) (.tmp 72) 31 rfl W.heap.size 9 i1 (.string ⟨#[]⟩) 1 16 Tryz.underlying31 hi1 hu0 hu1 hu2 rfl (by decide) (.slice A2 na c2) na (acc.map encT) rfl (HP3.out.alloc _) ⟨w6.heap.size,0,none⟩ 1 1 [.string (ofBytes nm)] rfl rfl ?c0 H1.out (by decide) ?c1 ?c2 ?c3 (w6.heap.size + 1) (by simp) ?_)
         case c0 => exact World.news_of_block (World.alloc_heap_new _ _)
         case c1 => unfold maxLen;omega
         case c2 => omega
         case c3 => simp;omega
         intro g2 cap2 w7 hown7 hg7 hcase hgl
         obtain ⟨k1,k2,k3⟩ := append_beside HRFA.out HRBA.out (by simp;omega) hRl (Nat.le_refl _) (HP3.out.alloc _) HFA2.out hown7 hg7 (hcase.imp (fun e => e.symm) (fun e => by rw [e];simp [Value.ownBlock]))
         obtain ⟨m1,m2⟩ := other_beside HRFA.out (HP3.out.alloc _) HFA2.out hRl (HP1.out.alloc _) HFA1.out (by decide) hg7
         have K1 := Lib.hid k1
         have K2 := Lib.hid k2
         have K3 := Lib.hid k3
         have M1 := Lib.hid m1
         have M2 := Lib.hid m2
         have HW7 := Lib.hid hown7
         have hs7 := k2.size
         clear k1 k2 k3 m1 m2 hown7 hg7 hcase HRFA HRBA HFA1 HFA2 H1 HP1 HP2 HP3 HP4 HR6 HB6
         go_wp2_with fail
         refine (HLD.out (x * 8) _ sq w7 (by omega) HOKq.out K1.out).mono ?_
         rintro e w8 ⟨rfl,h8,hb8⟩
         obtain ⟨n1,n2⟩ := own_rb HW7.out K3.out hb8
         obtain ⟨n3,n4⟩ := own_rb M1.out M2.out hb8
         have HX8 := Lib.hid (HLT.out (x * 8) sq)
         have HOK8 := Lib.hid (loadR_ok HOKq.out (x * 8))
         have H8 := Lib.hid h8
         have HB8 := Lib.hid (K2.out.trans (hb8.mono hs7))
         have N1 : Hid (w8.ownsRow W.heap.size 9 1 (.slice (some ⟨g2,0,none⟩) (na + 1) cap2) (acc ++ [nm]).length ((acc ++ [nm]).map encT)) := by
          rw [Hid,List.length_append,HNA.out,List.map_append];exact n1
         have N2 := Lib.hid n2
         have N3 := Lib.hid n3
         have N4 := Lib.hid n4
         have hna1 : (acc ++ [nm]).length <= cnt + 1 := by rw [List.length_append,HNA.out];simp;omega
         clear h8 hb8 n1 n2 n3 n4
         go_wp2_with fail
         go_roundw
         case rel => exact ⟨cnt + 1,_,acc ++ [nm],_,ls ++ [.int .i64 x],by omega,HX8.out,rfl,by rw [Hid,hf2];exact HE2.out,HOK8,H8,HB8,N3,N4,hna1,N1,N2⟩
         case measure => simp [lenV];omega
end
section
open Go.RowKit
attribute [local go_sem] Oper.semAt_some
variable {R : Nat} {FA : Option Addr} {nf cf : Nat} {fed : List Nat} {st : RSt}
def RefRes (R : Nat) (FA : Option Addr) (nf cf : Nat) (fed : List Nat) (W : World) (r : ResP × RSt) (e : Ending) (W' : World) : Prop :=
 (∃ NA nn nc BA bn bc,e = .returned (.agg #[.int .i64 r.1.no,.int .i64 r.1.kind,.int .i64 r.1.links,.int .i64 r.1.n,.slice NA nn nc,.slice BA bn bc]) ∧ RowsAt W.heap.size W' r.1 NA nn nc BA bn bc) ∧ RfAt R FA nf cf fed r.2 W' ∧ OkSt fed r.2 ∧ RB R W.heap.size W W'
structure OwnC (R : Nat) (W : World) (X n : Nat) (f : Nat -> Value) : Prop where
 cells : CellsAt W X n f
 free : FreeAt R W X
 lt : X < W.heap.size
theorem OwnC.rb {W W' : World} {X n : Nat} {f : Nat -> Value} (h : OwnC R W X n f) (k : RB R W.heap.size W W') : OwnC R W' X n f :=
 ⟨⟨fun i hi => (k.cell h.lt h.free).trans (h.cells.1 i hi),fun i => (k.frozen h.lt h.free).trans (h.cells.2 i)⟩,(k.keep X h.lt h.free).2,Nat.lt_of_lt_of_le h.lt k.size⟩
theorem OwnC.below {W W' : World} {X n : Nat} {f : Nat -> Value} (h : OwnC R W X n f) (hR : R < W.heap.size) (hb : Below W.heap.size W W') : OwnC R W' X n f := h.rb (RB.of_below hb hR)
theorem OwnC.set {W : World} {X n B i : Nat} {f : Nat -> Value} {v : Value} (h : OwnC R W X n f) (hne : B ≠ X) (hB : B ≠ R) : OwnC R (W.setCell ⟨B,i,none⟩ v) X n f :=
 ⟨h.cells.set hne,h.free.set hB,by simpa [World.setCell] using h.lt⟩
theorem OwnC.put {W : World} {X n B m : Nat} {f g : Nat -> Value} (h : OwnC R W X n f) (hne : X ≠ B) (hB : B ≠ R) : OwnC R (putTo W B g m) X n f :=
 ⟨h.cells.put hne,h.free.putTo hB m,by rw [putTo_size];exact h.lt⟩
theorem ownC_fresh {W W' : World} {X n : Nat} {f : Nat -> Value} (h : RfAt R FA nf cf fed st W) (hb : Below W.heap.size W W') (hX : W.heap.size <= X) (hl : X < W'.heap.size) (hc : CellsAt W' X n f) : OwnC R W' X n f := ⟨hc,h.rd.free_new hb hX,hl⟩
def zeroO : Nat -> Value := cellsO resZero none 0 0 none 0 0
def ndO (k l t : Nat) : Nat -> Value
 | 0 => .int .i64 k
 | 1 => .int .i64 l
 | _ => .int .i64 t
theorem stat_ret {W wE : World} {r : ResP × RSt} {NA BA : Option Addr} {nn nc bn bc : Nat} {tmps : Array Value} (h : CellsAt wE (W.heap.size + 1) 6 (cellsO r.1 NA nn nc BA bn bc)) (hrow : RowsAt W.heap.size wE r.1 NA nn nc BA bn bc) (h1 : RfAt R FA nf cf fed r.2 wE) (h2 : OkSt fed r.2) (h3 : RB R W.heap.size W wE)
  (h4 : tmps[4]? = some (.pointer (some ⟨W.heap.size + 1,0,none⟩))) : bodyPost Tryz.prog Tryz.f42 (RefRes R FA nf cf fed W r) .ret ⟨tmps,[]⟩ wE := by
 have g0 := h.1 0 (by omega)
 have g1 := h.1 1 (by omega)
 have g2 := h.1 2 (by omega)
 have g3 := h.1 3 (by omega)
 have g4 := h.1 4 (by omega)
 have g5 := h.1 5 (by omega)
 simp only [cellsO] at g0 g1 g2 g3 g4 g5
 refine bodyPost_ret (v := .agg #[.int .i64 r.1.no,.int .i64 r.1.kind,.int .i64 r.1.links,.int .i64 r.1.n,.slice NA nn nc,.slice BA bn bc]) ?_ rfl ⟨⟨NA,nn,nc,BA,bn,bc,rfl,hrow⟩,h1,h2,h3⟩
 simp [results,Tryz.results42,go_sem,h4,g0,g1,g2,g3,g4,g5]
theorem list_ret {W wE : World} {r : ResP × RSt} {NA BA : Option Addr} {nn nc bn bc : Nat} {tmps : Array Value} (h : CellsAt wE (W.heap.size + 1) 6 (cellsO r.1 NA nn nc BA bn bc)) (hrow : RowsAt W.heap.size wE r.1 NA nn nc BA bn bc) (h1 : RfAt R FA nf cf fed r.2 wE) (h2 : OkSt fed r.2) (h3 : RB R W.heap.size W wE)
  (h4 : tmps[4]? = some (.pointer (some ⟨W.heap.size + 1,0,none⟩))) : bodyPost Tryz.prog Tryz.f43 (RefRes R FA nf cf fed W r) .ret ⟨tmps,[]⟩ wE := by
 have g0 := h.1 0 (by omega)
 have g1 := h.1 1 (by omega)
 have g2 := h.1 2 (by omega)
 have g3 := h.1 3 (by omega)
 have g4 := h.1 4 (by omega)
 have g5 := h.1 5 (by omega)
 simp only [cellsO] at g0 g1 g2 g3 g4 g5
 refine bodyPost_ret (v := .agg #[.int .i64 r.1.no,.int .i64 r.1.kind,.int .i64 r.1.links,.int .i64 r.1.n,.slice NA nn nc,.slice BA bn bc]) ?_ rfl ⟨⟨NA,nn,nc,BA,bn,bc,rfl,hrow⟩,h1,h2,h3⟩
 simp [results,Tryz.results43,go_sem,h4,g0,g1,g2,g3,g4,g5]
theorem read_ret {W wE : World} {r : ResP × RSt} {NA BA : Option Addr} {nn nc bn bc : Nat} {tmps : Array Value} (h : CellsAt wE (W.heap.size + 1) 6 (cellsO r.1 NA nn nc BA bn bc)) (hrow : RowsAt W.heap.size wE r.1 NA nn nc BA bn bc) (h1 : RfAt R FA nf cf fed r.2 wE) (h2 : OkSt fed r.2) (h3 : RB R W.heap.size W wE)
  (h4 : tmps[8]? = some (.pointer (some ⟨W.heap.size + 1,0,none⟩))) : bodyPost Tryz.prog Tryz.f44 (RefRes R FA nf cf fed W r) .ret ⟨tmps,[]⟩ wE := by
 have g0 := h.1 0 (by omega)
 have g1 := h.1 1 (by omega)
 have g2 := h.1 2 (by omega)
 have g3 := h.1 3 (by omega)
 have g4 := h.1 4 (by omega)
 have g5 := h.1 5 (by omega)
 simp only [cellsO] at g0 g1 g2 g3 g4 g5
 refine bodyPost_ret (v := .agg #[.int .i64 r.1.no,.int .i64 r.1.kind,.int .i64 r.1.links,.int .i64 r.1.n,.slice NA nn nc,.slice BA bn bc]) ?_ rfl ⟨⟨NA,nn,nc,BA,bn,bc,rfl,hrow⟩,h1,h2,h3⟩
 simp [results,Tryz.results44,go_sem,h4,g0,g1,g2,g3,g4,g5]
theorem ask_ret {W wE : World} {r : ResP × RSt} {NA BA : Option Addr} {nn nc bn bc : Nat} {tmps : Array Value} (h : CellsAt wE (W.heap.size + 1) 6 (cellsO r.1 NA nn nc BA bn bc)) (hrow : RowsAt W.heap.size wE r.1 NA nn nc BA bn bc) (h1 : RfAt R FA nf cf fed r.2 wE) (h2 : OkSt fed r.2) (h3 : RB R W.heap.size W wE)
  (h4 : tmps[4]? = some (.pointer (some ⟨W.heap.size + 1,0,none⟩))) : bodyPost Tryz.prog Tryz.f24 (RefRes R FA nf cf fed W r) .ret ⟨tmps,[]⟩ wE := by
 have g0 := h.1 0 (by omega)
 have g1 := h.1 1 (by omega)
 have g2 := h.1 2 (by omega)
 have g3 := h.1 3 (by omega)
 have g4 := h.1 4 (by omega)
 have g5 := h.1 5 (by omega)
 simp only [cellsO] at g0 g1 g2 g3 g4 g5
 refine bodyPost_ret (v := .agg #[.int .i64 r.1.no,.int .i64 r.1.kind,.int .i64 r.1.links,.int .i64 r.1.n,.slice NA nn nc,.slice BA bn bc]) ?_ rfl ⟨⟨NA,nn,nc,BA,bn,bc,rfl,hrow⟩,h1,h2,h3⟩
 simp [results,Tryz.results24,go_sem,h4,g0,g1,g2,g3,g4,g5]
set_option maxRecDepth 200000 in
set_option maxHeartbeats 8000000 in
theorem statR_any (k l t : Nat) (W : World) (htop : t < 1024) (hk : k < 1000) (hl : l < 1000) (hok : OkSt fed st) (hnf : nf <= 20000) (hx64 : ∀ x ∈ fed,x < 18446744073709551616) (h : RfAt R FA nf cf fed st W) :
  Calls Tryz.prog 42 #[.pointer (some ⟨R,0,none⟩),.agg #[.int .i64 k,.int .i64 l,.int .i64 t]] W (RefRes R FA nf cf fed W (statR fed (k,l,t) st)) := by
 obtain ⟨W0,hW0⟩ : ∃ W0,((W.alloc (.cells #[.int .i64 k,.int .i64 l,.int .i64 t] 46)).alloc (.cells #[.int .i64 0,.int .i64 0,.int .i64 0,.int .i64 0,.slice none 0 0,.slice none 0 0] 33)).alloc (.cells #[.int .i64 0,.int .i64 k,.int .i64 l,.int .i64 0,.slice none 0 0,.slice none 0 0] 33) = W0 := ⟨_,rfl⟩
 have hnfl : fed.length = nf := h.rd.fedl
 have hb0 : Below W.heap.size W W0 := by rw [<- hW0];exact (((Below.refl _ _).alloc (Nat.le_refl _) _).alloc (by simp) _).alloc (by simp;omega) _
 have hs0 : W0.heap.size = W.heap.size + 3 := by rw [<- hW0];simp
 have hRl := h.rd.lt
 have hc0 : CellsAt W0 W.heap.size 3 (ndO k l t) := by
  rw [<- hW0]
  exact (cellsAt_new W _ _ 3 _ fun i hi => match i,hi with | 0,_ => rfl | 1,_ => rfl | 2,_ => rfl).below (m := W.heap.size + 1) (((Below.refl _ _).alloc (by simp) _).alloc (by simp) _) (by omega)
 have hc1 : CellsAt W0 (W.heap.size + 1) 6 zeroO := by
  rw [<- hW0]
  have := cellsAt_new (W.alloc (.cells #[.int .i64 k,.int .i64 l,.int .i64 t] 46)) #[.int .i64 0,.int .i64 0,.int .i64 0,.int .i64 0,.slice none 0 0,.slice none 0 0] 33 6 zeroO fun i hi => match i,hi with | 0,_ => rfl | 1,_ => rfl | 2,_ => rfl | 3,_ => rfl | 4,_ => rfl | 5,_ => rfl
  rw [show (W.alloc (.cells #[.int .i64 k,.int .i64 l,.int .i64 t] 46)).heap.size = W.heap.size + 1 from by simp] at this
  exact this.below (m := W.heap.size + 2) ((Below.refl _ _).alloc (by simp) _) (by omega)
 have hc2 : CellsAt W0 (W.heap.size + 1 + 1) 6 (cellsO ⟨0,k,l,0,[],[]⟩ none 0 0 none 0 0) := by
  rw [<- hW0]
  have := cellsAt_new ((W.alloc (.cells #[.int .i64 k,.int .i64 l,.int .i64 t] 46)).alloc (.cells #[.int .i64 0,.int .i64 0,.int .i64 0,.int .i64 0,.slice none 0 0,.slice none 0 0] 33)) #[.int .i64 0,.int .i64 k,.int .i64 l,.int .i64 0,.slice none 0 0,.slice none 0 0] 33 6 (cellsO ⟨0,k,l,0,[],[]⟩ none 0 0 none 0 0) fun i hi => match i,hi with | 0,_ => rfl | 1,_ => rfl | 2,_ => rfl | 3,_ => rfl | 4,_ => rfl | 5,_ => rfl
  rw [show ((W.alloc (.cells #[.int .i64 k,.int .i64 l,.int .i64 t] 46)).alloc (.cells #[.int .i64 0,.int .i64 0,.int .i64 0,.int .i64 0,.slice none 0 0,.slice none 0 0] 33)).heap.size = W.heap.size + 1 + 1 from by simp] at this
  exact this
 have C0 := Lib.hid (ownC_fresh h hb0 (Nat.le_refl _) (by omega) hc0)
 have C1 := Lib.hid (ownC_fresh h hb0 (Nat.le_succ _) (by omega) hc1)
 have C2 := Lib.hid (ownC_fresh h hb0 (by omega) (by omega) hc2)
 have H0 := Lib.hid (h.below hb0)
 have HB0 := Lib.hid (RB.of_below hb0 hRl)
 have HOK := Lib.hid hok
 have HX := Lib.hid hx64
 have HFL := Lib.hid fails22_any
 have HW0 := Lib.hid hW0
 have hlen : st.1.length <= 90000 := by have := hok.1;omega
 clear h hb0 hc0 hc1 hc2 hW0 hx64 hok
 by_cases hk1 : k = 1
 ·have hkb : ((k : Int) == 1) = true := by rw [beq_iff_eq];omega
  have HS := Lib.hid (sizeR_any (W := W0) t htop hlen (by omega) HX.out H0.out)
  have HE : Hid (statR fed (k,l,t) st = (if (sizeR fed t st).1.2 then ⟨0,k,l,(sizeR fed t st).1.1,[],[]⟩ else failsR 300,(sizeR fed t st).2)) := by unfold statR;rw [Hid,if_pos hk1]
  have hok2 : OkSt fed (sizeR fed t st).2 := loadR_ok HOK.out (t * 8)
  generalize statR fed (k,l,t) st = r at *
  clear hk1
  generalize sizeR fed t st = s at *
  obtain ⟨⟨sz,ok⟩,st1⟩ := s
  simp only at HE HS hok2 ⊢
  have HOK2 := Lib.hid hok2
  clear hok2 hlen
  go_enter Tryz.func42,Tryz.ntmps42
  go_wp2_with fail
  rw [HW0.out]
  refine HS.out.mono ?_
  rintro e w1 ⟨rfl,h1,hb1⟩
  have D1 := Lib.hid (C1.out.rb hb1)
  have D2 := Lib.hid (C2.out.rb hb1)
  have H1 := Lib.hid h1
  have HB1 := Lib.hid (HB0.out.trans (hb1.mono (by omega)))
  have hs1 := hb1.size
  clear hb1 h1
  cases ok with
  | false =>
   go_wp2_with fail
   refine (HFL.out _ _).mono ?_
   rintro e w2 ⟨rfl,hb2⟩
   have D3 := Lib.hid (D1.out.below (by omega) hb2)
   have H2 := Lib.hid (H1.out.below hb2)
   have HB2 := Lib.hid (HB1.out.trans ((RB.of_below hb2 (by omega)).mono (by omega)))
   clear hb2
   have z0 : w2.cell? ⟨W.heap.size + 1,0,none⟩ = some (.int .i64 0) := D3.out.cells.1 0 (by omega)
   have z1 : w2.cell? ⟨W.heap.size + 1,1,none⟩ = some (.int .i64 0) := D3.out.cells.1 1 (by omega)
   have z2 : w2.cell? ⟨W.heap.size + 1,2,none⟩ = some (.int .i64 0) := D3.out.cells.1 2 (by omega)
   have z3 : w2.cell? ⟨W.heap.size + 1,3,none⟩ = some (.int .i64 0) := D3.out.cells.1 3 (by omega)
   have z4 : w2.cell? ⟨W.heap.size + 1,4,none⟩ = some (.slice none 0 0) := D3.out.cells.1 4 (by omega)
   have z5 : w2.cell? ⟨W.heap.size + 1,5,none⟩ = some (.slice none 0 0) := D3.out.cells.1 5 (by omega)
   have zf : ∀ i,w2.frozen? ⟨W.heap.size + 1,i,none⟩ = false := D3.out.cells.2
   go_wp2_with fail
   have HCE : Hid (CellsAt (putTo w2 (W.heap.size + 1) (cellsO (failsR 300) none 0 0 none 0 0) 6) (W.heap.size + 1) 6 (cellsO (failsR 300) none 0 0 none 0 0)) := putTo_all D3.out.cells
   have HRE := Lib.hid (H2.out.putTo (X := W.heap.size + 1) (f := cellsO (failsR 300) none 0 0 none 0 0) D3.out.free (by omega) 6)
   have HBE := Lib.hid (HB2.out.putTo (X := W.heap.size + 1) (f := cellsO (failsR 300) none 0 0 none 0 0) (by omega) D3.out.free.1 6)
   rw [HE.out]
   exact stat_ret HCE.out (rowsAt_nil _ _ rfl rfl) HRE.out HOK2.out HBE.out rfl
  | true =>
   have z0 : w1.cell? ⟨W.heap.size + 1,0,none⟩ = some (.int .i64 0) := D1.out.cells.1 0 (by omega)
   have z1 : w1.cell? ⟨W.heap.size + 1,1,none⟩ = some (.int .i64 0) := D1.out.cells.1 1 (by omega)
   have z2 : w1.cell? ⟨W.heap.size + 1,2,none⟩ = some (.int .i64 0) := D1.out.cells.1 2 (by omega)
   have z3 : w1.cell? ⟨W.heap.size + 1,3,none⟩ = some (.int .i64 0) := D1.out.cells.1 3 (by omega)
   have z4 : w1.cell? ⟨W.heap.size + 1,4,none⟩ = some (.slice none 0 0) := D1.out.cells.1 4 (by omega)
   have z5 : w1.cell? ⟨W.heap.size + 1,5,none⟩ = some (.slice none 0 0) := D1.out.cells.1 5 (by omega)
   have zf : ∀ i,w1.frozen? ⟨W.heap.size + 1,i,none⟩ = false := D1.out.cells.2
   have y0 : w1.cell? ⟨W.heap.size + 1 + 1,0,none⟩ = some (.int .i64 0) := D2.out.cells.1 0 (by omega)
   have y1 : w1.cell? ⟨W.heap.size + 1 + 1,1,none⟩ = some (.int .i64 k) := D2.out.cells.1 1 (by omega)
   have y2 : w1.cell? ⟨W.heap.size + 1 + 1,2,none⟩ = some (.int .i64 l) := D2.out.cells.1 2 (by omega)
   have y3 : w1.cell? ⟨W.heap.size + 1 + 1,3,none⟩ = some (.int .i64 0) := D2.out.cells.1 3 (by omega)
   have y4 : w1.cell? ⟨W.heap.size + 1 + 1,4,none⟩ = some (.slice none 0 0) := D2.out.cells.1 4 (by omega)
   have y5 : w1.cell? ⟨W.heap.size + 1 + 1,5,none⟩ = some (.slice none 0 0) := D2.out.cells.1 5 (by omega)
   have yf : ∀ i,w1.frozen? ⟨W.heap.size + 1 + 1,i,none⟩ = false := D2.out.cells.2
   go_wp2_with fail
   have hne : W.heap.size + 1 + 1 ≠ R := by omega
   have D3 := Lib.hid (D1.out.set (B := W.heap.size + 1 + 1) (i := 3) (v := .int .i64 sz) (by omega) hne)
   have H3 := Lib.hid (H1.out.set (B := W.heap.size + 1 + 1) (i := 3) (v := .int .i64 sz) D2.out.free (by omega))
   have HB3 := Lib.hid (HB1.out.set (b := W.heap.size + 1 + 1) (i := 3) (v := .int .i64 sz) (by omega) hne)
   have HCE : Hid (CellsAt (putTo (w1.setCell ⟨W.heap.size + 1 + 1,3,none⟩ (.int .i64 sz)) (W.heap.size + 1) (cellsO (⟨0,k,l,sz,[],[]⟩) none 0 0 none 0 0) 6) (W.heap.size + 1) 6 (cellsO (⟨0,k,l,sz,[],[]⟩) none 0 0 none 0 0)) := putTo_all D3.out.cells
   have HRE := Lib.hid (H3.out.putTo (X := W.heap.size + 1) (f := cellsO (⟨0,k,l,sz,[],[]⟩) none 0 0 none 0 0) D3.out.free (by omega) 6)
   have HBE := Lib.hid (HB3.out.putTo (X := W.heap.size + 1) (f := cellsO (⟨0,k,l,sz,[],[]⟩) none 0 0 none 0 0) (by omega) D3.out.free.1 6)
   rw [HE.out]
   exact stat_ret HCE.out (rowsAt_nil _ _ rfl rfl) HRE.out HOK2.out HBE.out rfl
 ·have hkb : ((k : Int) == 1) = false := by rw [beq_eq_false_iff_ne];omega
  have HCH := Lib.hid (fun (b : Nat) (st' : RSt) (W1 : World) (hb : b < 7) (hst : OkSt fed st') (h1 : RfAt R FA nf cf fed st' W1) => chainR_any false t b W1 htop hb hst hnf HX.out h1)
  obtain ⟨T,hT⟩ : ∃ T,statBR fed t 7 0 0 st = T := ⟨_,rfl⟩
  have HE : Hid (statR fed (k,l,t) st = (if T.1.2 then ⟨0,k,l,T.1.1,[],[]⟩ else failsR 300,T.2)) := by unfold statR;rw [Hid,if_neg hk1,hT]
  have HT0 : Hid (statBR fed t (7 - 0) 0 0 st = T) := hT
  generalize statR fed (k,l,t) st = r at *
  clear hk1 hT hlen
  go_enter Tryz.func42,Tryz.ntmps42
  go_wp2_with fail
  rw [HW0.out]
  go_loopw [8] (fun i wr => ∃ (b a : Nat) (st' : RSt),b <= 7 ∧ i = .int .i64 b ∧ a <= 1024 * b ∧ Hid (statBR fed t (7 - b) b a st' = T) ∧ Hid (OkSt fed st') ∧ Hid (RfAt R FA nf cf fed st' wr) ∧ Hid (RB R W.heap.size W wr) ∧ Hid (OwnC R wr W.heap.size 3 (ndO k l t)) ∧ Hid (OwnC R wr (W.heap.size + 1) 6 zeroO) ∧ Hid (OwnC R wr (W.heap.size + 1 + 1) 6 (cellsO ⟨0,k,l,a,[],[]⟩ none 0 0 none 0 0))) (fun i _ => 7 - (intOf i).toNat)
  case atStart => exact ⟨0,0,st,by omega,rfl,by omega,HT0,HOK,H0,HB0,C0,C1,C2⟩
  case round =>
   clear C0 C1 C2 H0 HB0 HT0 HOK HW0
   obtain ⟨b,a,st',hb,rfl,ha,HT,HOK,H1,HB1,C0,C1,C2⟩ := hrel
   have hsr := HB1.out.size
   have z2 : wr.cell? ⟨W.heap.size,2,none⟩ = some (.int .i64 t) := C0.out.cells.1 2 (by omega)
   by_cases hlt : b < 7
   ·obtain ⟨f,hf⟩ : ∃ f,7 - b = f + 1 := ⟨6 - b,by omega⟩
    have hf2 : 7 - (b + 1) = f := by omega
    have HT1 : Hid ((if (chainRR false fed t b st').1.2.2 then statBR fed t f (b + 1) (a + (chainRR false fed t b st').1.1) (chainRR false fed t b st').2 else ((0,false),(chainRR false fed t b st').2)) = T) := by rw [Hid,<- HT.out,hf];rfl
    have hb7 : (b : Int) < 7 := by omega
    clear hf
    go_wp2_with fail
    refine (HCH.out b st' wr hlt HOK.out H1.out).mono ?_
    rintro e w2 ⟨A1,c1,A2,n2,c2,rfl,hc1,hn1,hn2,hn24,hrow,h2,hok2,hb2⟩
    generalize chainRR false fed t b st' = cr at *
    obtain ⟨⟨cnt,nms,ok⟩,st2⟩ := cr
    simp only at HT1 hc1 hn1 h2 hok2 ⊢
    have D0 := Lib.hid (C0.out.rb hb2)
    have D1 := Lib.hid (C1.out.rb hb2)
    have D2 := Lib.hid (C2.out.rb hb2)
    have H2 := Lib.hid h2
    have HOK2 := Lib.hid hok2
    have HB2 := Lib.hid (HB1.out.trans (hb2.mono hsr))
    have hs2 := hb2.size
    clear hb2 h2 hok2 hrow z2 C0 C1 C2 H1 HB1 HOK HT hn2 hn24
    cases ok with
    | false =>
     go_wp2_with fail
     refine (HFL.out _ _).mono ?_
     rintro e w3 ⟨rfl,hb3⟩
     have E1 := Lib.hid (D1.out.below (by omega) hb3)
     have H3 := Lib.hid (H2.out.below hb3)
     have HB3 := Lib.hid (HB2.out.trans ((RB.of_below hb3 (by omega)).mono (by omega)))
     have hs3 := hb3.size
     clear hb3
     have z0 : w3.cell? ⟨W.heap.size + 1,0,none⟩ = some (.int .i64 0) := E1.out.cells.1 0 (by omega)
     have z1 : w3.cell? ⟨W.heap.size + 1,1,none⟩ = some (.int .i64 0) := E1.out.cells.1 1 (by omega)
     have z2 : w3.cell? ⟨W.heap.size + 1,2,none⟩ = some (.int .i64 0) := E1.out.cells.1 2 (by omega)
     have z3 : w3.cell? ⟨W.heap.size + 1,3,none⟩ = some (.int .i64 0) := E1.out.cells.1 3 (by omega)
     have z4 : w3.cell? ⟨W.heap.size + 1,4,none⟩ = some (.slice none 0 0) := E1.out.cells.1 4 (by omega)
     have z5 : w3.cell? ⟨W.heap.size + 1,5,none⟩ = some (.slice none 0 0) := E1.out.cells.1 5 (by omega)
     have zf : ∀ i,w3.frozen? ⟨W.heap.size + 1,i,none⟩ = false := E1.out.cells.2
     go_wp2_with fail
     have HCE : Hid (CellsAt (putTo w3 (W.heap.size + 1) (cellsO (failsR 300) none 0 0 none 0 0) 6) (W.heap.size + 1) 6 (cellsO (failsR 300) none 0 0 none 0 0)) := putTo_all E1.out.cells
     have HRE := Lib.hid (H3.out.putTo (X := W.heap.size + 1) (f := cellsO (failsR 300) none 0 0 none 0 0) E1.out.free (by omega) 6)
     have HBE := Lib.hid (HB3.out.putTo (X := W.heap.size + 1) (f := cellsO (failsR 300) none 0 0 none 0 0) (by omega) E1.out.free.1 6)
     have HTE : Hid (T = ((0,false),st2)) := by rw [Hid,<- HT1.out];rfl
     rw [HE.out,HTE.out]
     exact stat_ret HCE.out (rowsAt_nil _ _ rfl rfl) HRE.out HOK2.out HBE.out rfl
    | true =>
     have HT2 : Hid (statBR fed t f (b + 1) (a + cnt) st2 = T) := HT1.out
     have y3 : w2.cell? ⟨W.heap.size + 1 + 1,3,none⟩ = some (.int .i64 a) := D2.out.cells.1 3 (by omega)
     have yf : ∀ i,w2.frozen? ⟨W.heap.size + 1 + 1,i,none⟩ = false := D2.out.cells.2
     have hne : W.heap.size + 1 + 1 ≠ R := by omega
     have ha1 : (a : Int) + (cnt : Int) <= 100000 := by omega
     have ha0 : (0 : Int) <= (a : Int) + (cnt : Int) := by omega
     have E0 := Lib.hid (D0.out.set (B := W.heap.size + 1 + 1) (i := 3) (v := .int .i64 ((a : Int) + (cnt : Int))) (by omega) hne)
     have E1 := Lib.hid (D1.out.set (B := W.heap.size + 1 + 1) (i := 3) (v := .int .i64 ((a : Int) + (cnt : Int))) (by omega) hne)
     have H3 := Lib.hid (H2.out.set (B := W.heap.size + 1 + 1) (i := 3) (v := .int .i64 ((a : Int) + (cnt : Int))) D2.out.free (by omega))
     have HB3 := Lib.hid (HB2.out.set (b := W.heap.size + 1 + 1) (i := 3) (v := .int .i64 ((a : Int) + (cnt : Int))) (by omega) hne)
     have E2 : Hid (OwnC R (w2.setCell ⟨W.heap.size + 1 + 1,3,none⟩ (.int .i64 ((a : Int) + (cnt : Int)))) (W.heap.size + 1 + 1) 6 (cellsO ⟨0,k,l,a + cnt,[],[]⟩ none 0 0 none 0 0)) := by
      refine ⟨cells_congr (D2.out.cells.upd (i := 3) (v := .int .i64 ((a : Int) + (cnt : Int))) (by omega)) fun i hi => ?_,D2.out.free.set hne,by have := D2.out.lt;simpa [World.setCell] using this⟩
      match i,hi with
      | 0,_ => rfl
      | 1,_ => rfl
      | 2,_ => rfl
      | 3,_ => simp [cellsO]
      | 4,_ => rfl
      | 5,_ => rfl
     go_wp2_with fail
     go_roundw
     case rel => exact ⟨b + 1,a + cnt,st2,by omega,by go_num,by omega,by rw [Hid,hf2];exact HT2.out,HOK2,H3,HB3,E0,E1,E2⟩
     case measure => simp [intOf];omega
   ·obtain rfl : b = 7 := by omega
    have HTE : Hid (T = ((a,true),st')) := HT.out.symm
    have z0 : wr.cell? ⟨W.heap.size + 1,0,none⟩ = some (.int .i64 0) := C1.out.cells.1 0 (by omega)
    have z1 : wr.cell? ⟨W.heap.size + 1,1,none⟩ = some (.int .i64 0) := C1.out.cells.1 1 (by omega)
    have z2 : wr.cell? ⟨W.heap.size + 1,2,none⟩ = some (.int .i64 0) := C1.out.cells.1 2 (by omega)
    have z3 : wr.cell? ⟨W.heap.size + 1,3,none⟩ = some (.int .i64 0) := C1.out.cells.1 3 (by omega)
    have z4 : wr.cell? ⟨W.heap.size + 1,4,none⟩ = some (.slice none 0 0) := C1.out.cells.1 4 (by omega)
    have z5 : wr.cell? ⟨W.heap.size + 1,5,none⟩ = some (.slice none 0 0) := C1.out.cells.1 5 (by omega)
    have zf : ∀ i,wr.frozen? ⟨W.heap.size + 1,i,none⟩ = false := C1.out.cells.2
    have y0 : wr.cell? ⟨W.heap.size + 1 + 1,0,none⟩ = some (.int .i64 0) := C2.out.cells.1 0 (by omega)
    have y1 : wr.cell? ⟨W.heap.size + 1 + 1,1,none⟩ = some (.int .i64 k) := C2.out.cells.1 1 (by omega)
    have y2 : wr.cell? ⟨W.heap.size + 1 + 1,2,none⟩ = some (.int .i64 l) := C2.out.cells.1 2 (by omega)
    have y3 : wr.cell? ⟨W.heap.size + 1 + 1,3,none⟩ = some (.int .i64 a) := C2.out.cells.1 3 (by omega)
    have y4 : wr.cell? ⟨W.heap.size + 1 + 1,4,none⟩ = some (.slice none 0 0) := C2.out.cells.1 4 (by omega)
    have y5 : wr.cell? ⟨W.heap.size + 1 + 1,5,none⟩ = some (.slice none 0 0) := C2.out.cells.1 5 (by omega)
    have yf : ∀ i,wr.frozen? ⟨W.heap.size + 1 + 1,i,none⟩ = false := C2.out.cells.2
    go_wp2_with fail
    have HCE : Hid (CellsAt (putTo wr (W.heap.size + 1) (cellsO (⟨0,k,l,a,[],[]⟩) none 0 0 none 0 0) 6) (W.heap.size + 1) 6 (cellsO (⟨0,k,l,a,[],[]⟩) none 0 0 none 0 0)) := putTo_all C1.out.cells
    have HRE := Lib.hid (H1.out.putTo (X := W.heap.size + 1) (f := cellsO (⟨0,k,l,a,[],[]⟩) none 0 0 none 0 0) C1.out.free (by omega) 6)
    have HBE := Lib.hid (HB1.out.putTo (X := W.heap.size + 1) (f := cellsO (⟨0,k,l,a,[],[]⟩) none 0 0 none 0 0) (by omega) C1.out.free.1 6)
    rw [HE.out,HTE.out]
    exact stat_ret HCE.out (rowsAt_nil _ _ rfl rfl) HRE.out HOK.out HBE.out rfl
end
section
open Go.RowKit
attribute [local go_sem] Oper.semAt_some
theorem run_append_row_at {P : Program} (w : World) (t ty : TypeId) (base : Nat) (e : TypeId) (i : TypeInfo) (z : Value) (bytes : Nat) (ht : P.underlying t = some (.slice e)) (hi : P.info? e = some i) (hz : i.zero = some z)
  (hsize : i.size = 1) (hby : i.bytes = bytes) (hzs : z.cells.size = 1) (v : Value) (n : Nat) (xs : List Value) (hown : w.ownsRow base e 1 v n xs)
  (A : Option Addr) (m c : Nat) (news : List Value) (hl : news.length = m) (hr : RowAt w A news) (h1 : ∀ u ∈ news,u.oneCell' = true)
  (h63 : n + m <= maxLen) (hbytes : (n + m) * bytes <= 140737488355328) (hbase : base <= w.heap.size) :
  ∃ v' w',(Builtin.append_ #[t,t] ty #[v,.slice A m c]).run P w = .ok v' w' ∧ w'.ownsRow base e 1 v' (n + m) (xs ++ news) ∧ w.grownBy w' v.ownBlock ∧ (v'.ownBlock = v.ownBlock ∨ v'.ownBlock = some w.heap.size) := by
 rcases Nat.eq_zero_or_pos m with h0 | h0
 ·subst h0
  have hn : news = [] := List.eq_nil_of_length_eq_zero hl
  subst hn
  cases A with
  | none =>
   refine ⟨v,w,?_,by simpa using hown,⟨rfl,rfl,rfl,Nat.le_refl _,fun _ _ _ => rfl⟩,.inl rfl⟩
   rcases hown.2 with ⟨rfl,rfl⟩ | ⟨g,cap,cur,rfl,_,_,hnc,_⟩
   ·simp [Builtin.append_,run_underlying ht,sizeOf,typeInfo,hi,Builtin.lenOf,Builtin.firstCells]
   ·simp [Builtin.append_,run_underlying ht,sizeOf,typeInfo,hi,Builtin.lenOf,Builtin.firstCells,hnc,storeCells]
  | some ad =>
   obtain ⟨v',w',h2,h3,h4,_,h5⟩ := run_append_own_at (P := P) w base t ty e i z 1 bytes ht hi hz hsize hby hzs (by decide) v n xs hown ad 0 c [] rfl (fun j u hu => by simp at hu) h1 h63 hbytes hbase
   exact ⟨v',w',h2,h3,h4,h5⟩
 ·obtain ⟨b,off,rfl,_,hcl⟩ := hr (by omega)
  obtain ⟨v',w',h2,h3,h4,_,h5⟩ := run_append_own_at (P := P) w base t ty e i z 1 bytes ht hi hz hsize hby hzs (by decide) v n xs hown ⟨b,off,none⟩ m c news (by omega) (fun j u hu => by rw [plain_add];exact hcl j u hu) h1 h63 hbytes hbase
  exact ⟨v',w',h2,h3,h4,h5⟩
theorem wpList_append_run {P : Program} {ops : Array Oper} {rest : List Oper} {o : Oper} {a : Act} {w : World} {Q : Exit -> Act -> World -> Prop} (hgd : o.guard = none) (s x : Operand) (t u : TypeId)
  (ho : o.op = .call { callee := .builtin .append,args := #[s,x],argTypes := #[t,u] }) (vs vx v : Value) (w' : World) (hs : a.eval s = vs) (hx : a.eval x = vx) (hr : (Builtin.append_ #[t,u] o.type #[vs,vx]).run P w = .ok v w')
  (h : wpList P ops Q rest (a.put o.dst v) w') : wpList P ops Q (o :: rest) a w := by
 refine wpList_plain hgd fun _ hK => ?_
 unfold Oper.wp execOp
 simp only [ho,resolve,invoke,builtin,Sem.run_bind,Sem.run_pure,Result.andThen_ok,List.map_toArray,List.map_cons,List.map_nil,hs,hx,hr]
 exact hK _ _ h
theorem OwnC.grown {R X m base n : Nat} {W W' : World} {f : Nat -> Value} {e : TypeId} {v : Value} {xs : List Value} (h : OwnC R W X m f) (hv : W.ownsRow base e 1 v n xs) (hX : X < base) (hR : some R ≠ v.ownBlock) (hlt : R < W.heap.size) (hg : W.grownBy W' v.ownBlock) : OwnC R W' X m f := by
 have hne : some X ≠ v.ownBlock := fun e => by have := (hv.lt X e.symm).1;omega
 have hk := hg.block X h.lt hne
 exact ⟨⟨fun i hi => (World.cell?_of_block (w := W) (a := ⟨X,i,none⟩) hk).trans (h.cells.1 i hi),fun i => (World.frozen?_of_block (w := W) (a := ⟨X,i,none⟩) hk).trans (h.cells.2 i)⟩,free_grown hg hR hlt h.free,Nat.lt_of_lt_of_le h.lt hg.size⟩
variable {R : Nat} {FA : Option Addr} {nf cf : Nat} {fed : List Nat} {st : RSt}
set_option maxRecDepth 200000 in
set_option maxHeartbeats 8000000 in
theorem listR_any (k l t : Nat) (W : World) (htop : t < 1024) (hk : k < 1000) (hl : l < 1000) (hok : OkSt fed st) (hnf : nf <= 20000) (hx64 : ∀ x ∈ fed,x < 18446744073709551616) (h : RfAt R FA nf cf fed st W) :
  Calls Tryz.prog 43 #[.pointer (some ⟨R,0,none⟩),.agg #[.int .i64 k,.int .i64 l,.int .i64 t]] W (RefRes R FA nf cf fed W (listR fed (k,l,t) st)) := by
 obtain ⟨i1,hi1,hu0,hu1,hu2⟩ := info_parts Tryz.infoStr
 obtain ⟨W0,hW0⟩ : ∃ W0,(W.alloc (.cells #[.int .i64 k,.int .i64 l,.int .i64 t] 46)).alloc (.cells #[.int .i64 0,.int .i64 0,.int .i64 0,.int .i64 0,.slice none 0 0,.slice none 0 0] 33) = W0 := ⟨_,rfl⟩
 have hnfl : fed.length = nf := h.rd.fedl
 have hb0 : Below W.heap.size W W0 := by rw [<- hW0];exact ((Below.refl _ _).alloc (Nat.le_refl _) _).alloc (by simp) _
 have hs0 : W0.heap.size = W.heap.size + 2 := by rw [<- hW0];simp
 have hRl := h.rd.lt
 have hc0 : CellsAt W0 W.heap.size 3 (ndO k l t) := by
  rw [<- hW0]
  exact (cellsAt_new W _ _ 3 _ fun i hi => match i,hi with | 0,_ => rfl | 1,_ => rfl | 2,_ => rfl).below (m := W.heap.size + 1) ((Below.refl _ _).alloc (by simp) _) (by omega)
 have hc1 : CellsAt W0 (W.heap.size + 1) 6 zeroO := by
  rw [<- hW0]
  have := cellsAt_new (W.alloc (.cells #[.int .i64 k,.int .i64 l,.int .i64 t] 46)) #[.int .i64 0,.int .i64 0,.int .i64 0,.int .i64 0,.slice none 0 0,.slice none 0 0] 33 6 zeroO fun i hi => match i,hi with | 0,_ => rfl | 1,_ => rfl | 2,_ => rfl | 3,_ => rfl | 4,_ => rfl | 5,_ => rfl
  rw [show (W.alloc (.cells #[.int .i64 k,.int .i64 l,.int .i64 t] 46)).heap.size = W.heap.size + 1 from by simp] at this
  exact this
 have C0 := Lib.hid (ownC_fresh h hb0 (Nat.le_refl _) (by omega) hc0)
 have C1 := Lib.hid (ownC_fresh h hb0 (Nat.le_succ _) (by omega) hc1)
 have H0 := Lib.hid (h.below hb0)
 have HB0 := Lib.hid (RB.of_below hb0 hRl)
 have HOK := Lib.hid hok
 have HFL := Lib.hid fails22_any
 have HW0 := Lib.hid hW0
 have HCH := Lib.hid (fun (b : Nat) (st' : RSt) (W1 : World) (hb : b < 7) (hst : OkSt fed st') (h1 : RfAt R FA nf cf fed st' W1) => chainR_any true t b W1 htop hb hst hnf hx64 h1)
 have H1T : Hid (∀ (l : List (List UInt8)),∀ u ∈ l.map encT,u.oneCell' = true) := fun l u hu => by
  obtain ⟨x,_,rfl⟩ := List.mem_map.1 hu;rfl
 obtain ⟨T,hT⟩ : ∃ T,listBR fed t 7 0 [] st = T := ⟨_,rfl⟩
 have HE : Hid (listR fed (k,l,t) st = (if T.1.2 then ⟨0,0,0,0,sortL T.1.1,[]⟩ else failsR 300,T.2)) := by unfold listR;rw [Hid,hT]
 have HT0 : Hid (listBR fed t (7 - 0) 0 [] st = T) := hT
 generalize listR fed (k,l,t) st = r at *
 clear h hb0 hc0 hc1 hW0 hx64 hok hT
 go_enter Tryz.func43,Tryz.ntmps43
 go_wp2_with fail
 rw [HW0.out]
 go_loopw [5,6] (fun v i wr => ∃ (b : Nat) (acc : List (List UInt8)) (st' : RSt),b <= 7 ∧ i = .int .i64 b ∧ acc.length <= 1024 * b ∧ Hid (listBR fed t (7 - b) b acc st' = T) ∧ Hid (OkSt fed st') ∧ Hid (RfAt R FA nf cf fed st' wr) ∧ Hid (RB R W.heap.size W wr) ∧ Hid (OwnC R wr W.heap.size 3 (ndO k l t)) ∧ Hid (OwnC R wr (W.heap.size + 1) 6 zeroO) ∧ Hid (wr.ownsRow (W.heap.size + 2) 9 1 v acc.length (acc.map encT)) ∧ Hid (OffR R wr v)) (fun _ i _ => 7 - (intOf i).toNat)
 case atStart => exact ⟨0,[],st,by omega,rfl,by simp,HT0,HOK,H0,HB0,C0,C1,World.ownsRow_nil _ _ _ _,(fun b hb => by cases hb)⟩
 case round =>
  clear C0 C1 H0 HB0 HT0 HOK HW0
  obtain ⟨b,acc,st',hb,rfl,hal,HT,HOK,H1,HB1,C0,C1,HO1,HF1⟩ := hrel
  obtain ⟨A0,c0,e0,hc0,hcm0⟩ := owns_slice HO1.out
  subst e0
  obtain ⟨na,hna⟩ : ∃ na,acc.length = na := ⟨_,rfl⟩
  rw [hna] at hal hc0 HO1 HF1 ⊢
  have HNA := Lib.hid hna
  clear hna
  have hsr := HB1.out.size
  have hC1l := C1.out.lt
  have z2 : wr.cell? ⟨W.heap.size,2,none⟩ = some (.int .i64 t) := C0.out.cells.1 2 (by omega)
  by_cases hlt : b < 7
  ·obtain ⟨f,hf⟩ : ∃ f,7 - b = f + 1 := ⟨6 - b,by omega⟩
   have hf2 : 7 - (b + 1) = f := by omega
   have HT1 : Hid ((if (chainRR true fed t b st').1.2.2 then listBR fed t f (b + 1) (acc ++ (chainRR true fed t b st').1.2.1) (chainRR true fed t b st').2 else (([],false),(chainRR true fed t b st').2)) = T) := by rw [Hid,<- HT.out,hf];rfl
   have hb7 : (b : Int) < 7 := by omega
   clear hf
   go_wp2_with fail
   refine (HCH.out b st' wr hlt HOK.out H1.out).mono ?_
   rintro e w2 ⟨A1,c1,A2,n2,c2,rfl,hc1,hn1,hn2,hn24,hrow,h2,hok2,hb2⟩
   generalize chainRR true fed t b st' = cr at *
   obtain ⟨⟨cnt,nms,ok⟩,st2⟩ := cr
   simp only at HT1 hc1 hn1 hn2 hrow h2 hok2 ⊢
   have D0 := Lib.hid (C0.out.rb hb2)
   have D1 := Lib.hid (C1.out.rb hb2)
   have H2 := Lib.hid h2
   have HOK2 := Lib.hid hok2
   have HB2 := Lib.hid (HB1.out.trans (hb2.mono hsr))
   have hs2 := hb2.size
   obtain ⟨p1,p2⟩ := own_rb HO1.out HF1.out hb2
   have P1 := Lib.hid p1
   have P2 := Lib.hid p2
   have HRW := Lib.hid hrow
   have HN2 := Lib.hid hn2
   clear hb2 h2 hok2 hrow z2 C0 C1 H1 HB1 HOK HT hn2 p1 p2 HO1 HF1
   cases ok with
   | false =>
    go_wp2_with fail
    refine (HFL.out _ _).mono ?_
    rintro e w3 ⟨rfl,hb3⟩
    have E1 := Lib.hid (D1.out.below (by omega) hb3)
    have H3 := Lib.hid (H2.out.below hb3)
    have HB3 := Lib.hid (HB2.out.trans ((RB.of_below hb3 (by omega)).mono (by omega)))
    have hs3 := hb3.size
    clear hb3
    have z0 : w3.cell? ⟨W.heap.size + 1,0,none⟩ = some (.int .i64 0) := E1.out.cells.1 0 (by omega)
    have z1 : w3.cell? ⟨W.heap.size + 1,1,none⟩ = some (.int .i64 0) := E1.out.cells.1 1 (by omega)
    have z2 : w3.cell? ⟨W.heap.size + 1,2,none⟩ = some (.int .i64 0) := E1.out.cells.1 2 (by omega)
    have z3 : w3.cell? ⟨W.heap.size + 1,3,none⟩ = some (.int .i64 0) := E1.out.cells.1 3 (by omega)
    have z4 : w3.cell? ⟨W.heap.size + 1,4,none⟩ = some (.slice none 0 0) := E1.out.cells.1 4 (by omega)
    have z5 : w3.cell? ⟨W.heap.size + 1,5,none⟩ = some (.slice none 0 0) := E1.out.cells.1 5 (by omega)
    have zf : ∀ i,w3.frozen? ⟨W.heap.size + 1,i,none⟩ = false := E1.out.cells.2
    go_wp2_with fail
    have HCE : Hid (CellsAt (putTo w3 (W.heap.size + 1) (cellsO (failsR 300) none 0 0 none 0 0) 6) (W.heap.size + 1) 6 (cellsO (failsR 300) none 0 0 none 0 0)) := putTo_all E1.out.cells
    have HRE := Lib.hid (H3.out.putTo (X := W.heap.size + 1) (f := cellsO (failsR 300) none 0 0 none 0 0) E1.out.free (by omega) 6)
    have HBE := Lib.hid (HB3.out.putTo (X := W.heap.size + 1) (f := cellsO (failsR 300) none 0 0 none 0 0) (by omega) E1.out.free.1 6)
    have HTE : Hid (T = (([],false),st2)) := by rw [Hid,<- HT1.out];rfl
    rw [HE.out,HTE.out]
    exact list_ret HCE.out (rowsAt_nil _ _ rfl rfl) HRE.out HOK2.out HBE.out rfl
   | true =>
    have HT2 : Hid (listBR fed t f (b + 1) (acc ++ nms) st2 = T) := HT1.out
    obtain ⟨v',w3,hrn,hon,hgn,hat⟩ := run_append_row_at (P := Tryz.prog) w2 31 31 (W.heap.size + 2) 9 i1 (.string ⟨#[]⟩) 16 Tryz.underlying31 hi1 hu0 hu1 hu2 rfl (.slice A0 na c0) na (acc.map encT) P1.out A2 n2 c2 (nms.map encT) (by rw [List.length_map];exact HN2.out) HRW.out (H1T.out nms) (by unfold maxLen;omega) (by omega) (by omega)
    obtain ⟨q1,q2,q3⟩ := append_beside H2.out HB2.out (by omega) hRl (by omega) P1.out P2.out hon hgn hat
    have hRne : some R ≠ (Value.slice A0 na c0).ownBlock := fun e => (P2.out R e.symm).1 rfl
    have E0 := Lib.hid (D0.out.grown P1.out (by omega) hRne (by omega) hgn)
    have E1 := Lib.hid (D1.out.grown P1.out (by omega) hRne (by omega) hgn)
    have Q1 := Lib.hid q1
    have Q2 := Lib.hid q2
    have Q3 := Lib.hid q3
    have HO3 : Hid (w3.ownsRow (W.heap.size + 2) 9 1 v' (acc ++ nms).length ((acc ++ nms).map encT)) := by
     rw [Hid,List.length_append,HNA.out,HN2.out,List.map_append];exact hon
    have hal2 : (acc ++ nms).length <= 1024 * (b + 1) := by rw [List.length_append,HNA.out,HN2.out];omega
    have HRN := Lib.hid hrn
    clear q1 q2 q3 hon hgn hat hrn hRne
    go_wp2_with (refine wpList_append_run rfl (.tmp 26) (.tmp 27) 31 31 rfl _ _ v' w3 rfl rfl HRN.out ?_)
    go_roundw
    case rel => exact ⟨b + 1,acc ++ nms,st2,by omega,by go_num,hal2,by rw [Hid,hf2];exact HT2.out,HOK2,Q1,Q2,E0,E1,HO3,Q3⟩
    case measure => simp [intOf];omega
  ·obtain rfl : b = 7 := by omega
   have HTE : Hid (T = ((acc,true),st')) := HT.out.symm
   go_wp2_with fail
   refine (refSorted_at acc A0 na c0 wr HNA.out (by omega) (row_of_own HO1.out)).mono ?_
   rintro e w4 ⟨A3,c3,m3,rfl,hm3,hmc3,hcm3,HRW3,hb4,hbase⟩
   have E1 := Lib.hid (C1.out.below (by omega) hb4)
   have H3 := Lib.hid (H1.out.below hb4)
   have HB3 := Lib.hid (HB1.out.trans ((RB.of_below hb4 (by omega)).mono (by omega)))
   have hs4 := hb4.size
   have HM3 := Lib.hid hm3
   have HBS := Lib.hid hbase
   clear hb4 z2 hm3 hbase
   have z0 : w4.cell? ⟨W.heap.size + 1,0,none⟩ = some (.int .i64 0) := E1.out.cells.1 0 (by omega)
   have z1 : w4.cell? ⟨W.heap.size + 1,1,none⟩ = some (.int .i64 0) := E1.out.cells.1 1 (by omega)
   have z2 : w4.cell? ⟨W.heap.size + 1,2,none⟩ = some (.int .i64 0) := E1.out.cells.1 2 (by omega)
   have z3 : w4.cell? ⟨W.heap.size + 1,3,none⟩ = some (.int .i64 0) := E1.out.cells.1 3 (by omega)
   have z4 : w4.cell? ⟨W.heap.size + 1,4,none⟩ = some (.slice none 0 0) := E1.out.cells.1 4 (by omega)
   have z5 : w4.cell? ⟨W.heap.size + 1,5,none⟩ = some (.slice none 0 0) := E1.out.cells.1 5 (by omega)
   have zf : ∀ i,w4.frozen? ⟨W.heap.size + 1,i,none⟩ = false := E1.out.cells.2
   go_wp2_with fail
   have HCE : Hid (CellsAt (putTo w4 (W.heap.size + 1) (cellsO (⟨0,0,0,0,sortL acc,[]⟩) A3 m3 c3 none 0 0) 6) (W.heap.size + 1) 6 (cellsO (⟨0,0,0,0,sortL acc,[]⟩) A3 m3 c3 none 0 0)) := putTo_all E1.out.cells
   have HRE := Lib.hid (H3.out.putTo (X := W.heap.size + 1) (f := cellsO (⟨0,0,0,0,sortL acc,[]⟩) A3 m3 c3 none 0 0) E1.out.free (by omega) 6)
   have HBE := Lib.hid (HB3.out.putTo (X := W.heap.size + 1) (f := cellsO (⟨0,0,0,0,sortL acc,[]⟩) A3 m3 c3 none 0 0) (by omega) E1.out.free.1 6)
   have HRO : Hid (RowsAt W.heap.size (putTo w4 (W.heap.size + 1) (cellsO ⟨0,0,0,0,sortL acc,[]⟩ A3 m3 c3 none 0 0) 6) ⟨0,0,0,0,sortL acc,[]⟩ A3 m3 c3 none 0 0) := by
    have h0 : RowsAt wr.heap.size w4 ⟨0,0,0,0,sortL acc,[]⟩ A3 m3 c3 none 0 0 := ⟨HM3.out,rfl,hmc3,Nat.le_refl _,by unfold maxLen;omega,hcm3,HRW3.out,RowAt.nil,HBS.out,by simp⟩
    exact (h0.putTo (by omega) 6).below (Below.refl _ _) (by omega)
   rw [HE.out,HTE.out]
   exact list_ret HCE.out HRO.out HRE.out HOK.out HBE.out rfl
end
end Go.Proofs.YtdpooagnbmpinaaGreatDoor
