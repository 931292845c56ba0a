import Derived.Test.YtdpooagnbmpinaaGreatDoorZI2
import Derived.RegionTactic
import Derived.ChangeAlike
import Derived.Deep.RegionHeld3
import Derived.Test.YtdpooagnbmpinaaGreatDoorZG4
namespace Go.Proofs.YtdpooagnbmpinaaGreatDoor
section
open Go.RowKit
def encRt (r : Nat × (Nat × Nat × Nat) × Bool) : Value := .tuple #[.int .i64 r.1,encNd r.2.1,.bool r.2.2]
variable {R : Nat} {FA : Option Addr} {nf cf : Nat} {fed : List Nat} {st : RSt}
set_option maxRecDepth 100000 in
set_option maxHeartbeats 3000000 in
theorem rootR_any (W : World) (hl : st.1.length <= 90000) (hnf : nf <= 100000) (hx64 : ∀ x ∈ fed,x < 18446744073709551616) (h : RfAt R FA nf cf fed st W) :
  Calls Tryz.prog 69 #[.pointer (some ⟨R,0,none⟩)] W fun e W' => e = .returned (encRt (rootR fed st).1) ∧ RfAt R FA nf cf fed (rootR fed st).2 W' ∧ RB R W.heap.size W W' := by
 have HE : Hid (rootR fed st = if (loadR fed 1 st).1 = 0 ∨ 1023 < (loadR fed 1 st).1 then ((0,(0,0,0),false),(loadR fed 1 st).2)
  else (((loadR fed 1 st).1,(enterR fed (loadR fed 1 st).1 (loadR fed 1 st).2).1),(enterR fed (loadR fed 1 st).1 (loadR fed 1 st).2).2)) := rfl
 have hL1 := loadR_len fed 1 st
 have hk := loadR_lt hx64 1 st
 obtain ⟨W0,hW0⟩ : ∃ W0,W.alloc (.cells #[.int .i64 0,.int .i64 0,.int .i64 0] 46) = W0 := ⟨_,rfl⟩
 have hb0 : Below W.heap.size W W0 := by rw [<- hW0];exact (Below.refl _ _).alloc (Nat.le_refl _) _
 have hs0 : W0.heap.size = W.heap.size + 1 := by rw [<- hW0];simp
 have hRl := h.rd.lt
 have hI : CellsAt W0 W.heap.size 3 (fun _ => .int .i64 0) := by
  rw [<- hW0]
  exact cellsAt_new _ _ _ _ _ fun i hi => match i,hi with | 0,_ => rfl | 1,_ => rfl | 2,_ => rfl
 have hF0 := h.rd.free_new hb0 (Nat.le_refl W.heap.size)
 have HB0 := Lib.hid (RB.of_below hb0 hRl)
 have h0 := h.below hb0
 have HL1 := Lib.hid (loadR_any 1 1 W0 rfl (by omega) hnf hx64 h0)
 have HL2 := Lib.hid (fun (x : Nat) (W1 : World) (hx : x < 1024) (h1 : RfAt R FA nf cf fed (loadR fed 1 st).2 W1) => enterR_any x (x : Int) W1 rfl hx (by omega) hnf hx64 h1)
 clear h h0 hb0 hx64 hL1
 generalize loadR fed 1 st = r1 at *
 obtain ⟨x,st1⟩ := r1
 simp only at *
 by_cases hbad : x = 0 ∨ 1023 < x
 ·have HE1 : Hid (rootR fed st = ((0,(0,0,0),false),st1)) := by rw [Hid,HE.out,if_pos hbad]
  have hx2 : ((x : Int) == 0) = true ∨ (((x : Int) == 0) = false ∧ decide ((1023 : Int) < (x : Int)) = true) := by
   by_cases h0 : x = 0
   ·exact .inl (by simp [h0])
   ·exact .inr ⟨by simp [h0],by simp;omega⟩
  have HX2 := Lib.hid hx2
  clear hx2 hbad
  rcases HX2.out with hx2 | ⟨hx2,hx3⟩
  all_goals
   go_enter Tryz.func69,Tryz.ntmps69
   go_wp2_with fail
   refine HL1.out.mono ?_
   rintro e w1 ⟨rfl,h1,hb1⟩
   have hI1 := hI.rb hb1 (by omega) hF0
   have hF1 := (hb1.keep W.heap.size (by omega) hF0).2
   have HB1 := Lib.hid (HB0.out.trans (hb1.mono (by omega)))
   have H1 : Hid (RfAt R FA nf cf fed st1 (put3 w1 W.heap.size 0 0 0)) := h1.put3 hF1 (by omega)
   have HB2 : Hid (RB R W.heap.size W (put3 w1 W.heap.size 0 0 0)) := HB1.out.put3 (Nat.le_refl _) hF1.1
   have y0 := hI1.1 0 (by omega)
   have y1 := hI1.1 1 (by omega)
   have y2 := hI1.1 2 (by omega)
   have z0 := hI1.2 0
   have z1 := hI1.2 1
   have z2 := hI1.2 2
   simp only at y0 y1 y2 z0 z1 z2
   unfold put3 at H1 HB2
   clear hI1 hF1 hb1 h1 hI hF0
   go_wp2_with fail
   rw [HE1.out]
   refine bodyPost_ret (v := encRt (0,(0,0,0),false)) (by simp [results,Tryz.results69,go_sem,y0,y1,y2,z0,z1,z2,encRt,encNd,encN]) rfl ?_
   exact ⟨rfl,H1.out,HB2.out⟩
 ·have HE1 : Hid (rootR fed st = ((x,(enterR fed x st1).1),(enterR fed x st1).2)) := by rw [Hid,HE.out,if_neg hbad]
  have hx2 : ((x : Int) == 0) = false := by simp;omega
  have hx3 : decide ((1023 : Int) < (x : Int)) = false := by simp;omega
  have hw : IntKind.i64.wrap (x : Int) = (x : Int) := IntWalk.i64_in _ (by omega)
  have HL2 := Lib.hid (fun W1 => HL2.out x W1 (by omega))
  generalize enterR fed x st1 = r2 at *
  obtain ⟨⟨n,b⟩,st2⟩ := r2
  clear hbad
  have HEV : Hid (encNd n = .agg #[.int .i64 n.1,.int .i64 n.2.1,.int .i64 n.2.2]) := rfl
  simp only at *
  rw [HEV.out] at HL2
  go_enter Tryz.func69,Tryz.ntmps69
  go_wp2_with fail
  refine HL1.out.mono ?_
  rintro e w1 ⟨rfl,h1,hb1⟩
  have hI1 := hI.rb hb1 (by omega) hF0
  have hF1 := (hb1.keep W.heap.size (by omega) hF0).2
  have HB1 := Lib.hid (HB0.out.trans (hb1.mono (by omega)))
  have hs1 := hb1.size
  clear hI hF0 hb1
  go_wp2_with fail
  refine (HL2.out _ h1).mono ?_
  rintro e w2 ⟨rfl,h2,hb2⟩
  have hI2 := hI1.rb hb2 (by omega) hF1
  have hF2 := (hb2.keep W.heap.size (by omega) hF1).2
  have HB2 := Lib.hid (HB1.out.trans (hb2.mono (by omega)))
  have hs2 := hb2.size
  clear hI1 hF1 hb2 h1
  obtain ⟨w3,hw3⟩ : ∃ w3,w2.alloc (.cells #[.int .i64 n.1,.int .i64 n.2.1,.int .i64 n.2.2] 46) = w3 := ⟨_,rfl⟩
  have hb3 : Below w2.heap.size w2 w3 := by rw [<- hw3];exact (Below.refl _ _).alloc (Nat.le_refl _) _
  have u0 : w3.cell? ⟨w2.heap.size,0,none⟩ = some (.int .i64 n.1) := by rw [<- hw3];exact cell_new w2 _ _ 0 _ rfl
  have u1 : w3.cell? ⟨w2.heap.size,1,none⟩ = some (.int .i64 n.2.1) := by rw [<- hw3];exact cell_new w2 _ _ 1 _ rfl
  have u2 : w3.cell? ⟨w2.heap.size,2,none⟩ = some (.int .i64 n.2.2) := by rw [<- hw3];exact cell_new w2 _ _ 2 _ rfl
  have hI3 := hI2.below hb3 (by omega)
  have hF3 := freeAt_below hb3 h2.rd.lt hF2
  have h3 := h2.below hb3
  have HB3 := Lib.hid (HB2.out.trans ((RB.of_below hb3 h2.rd.lt).mono (by omega)))
  go_wp2_with fail
  clear hw3 hb3 h2 hI2 hF2
  have y0 := hI3.1 0 (by omega)
  have y1 := hI3.1 1 (by omega)
  have y2 := hI3.1 2 (by omega)
  have z0 := hI3.2 0
  have z1 := hI3.2 1
  have z2 := hI3.2 2
  have H5 : Hid (RfAt R FA nf cf fed st2 (put3 w3 W.heap.size n.1 n.2.1 n.2.2)) := h3.put3 hF3 (by omega)
  have HB5 : Hid (RB R W.heap.size W (put3 w3 W.heap.size n.1 n.2.1 n.2.2)) := HB3.out.put3 (Nat.le_refl _) hF3.1
  unfold put3 at H5 HB5
  clear hI3 hF3 h3
  go_region
  all_goals
   go_wp2_with fail
   rw [HE1.out]
   refine bodyPost_ret (v := encRt (x,n,b)) (by simp [results,Tryz.results69,go_sem,y0,y1,y2,z0,z1,z2,encRt,encNd,encN]) rfl ?_
   exact ⟨rfl,H5.out.drew',HB5.out.trans (RB.drew' _ _ _)⟩
end
section
open Go.RowKit
def fitsWR (fed : List Nat) (line : Nat) : List Nat -> Nat -> RSt -> Bool × RSt
 | [],_,st => (true,st)
 | x :: ws,k,st => if (loadR fed (line * 8 + (3 + k)) st).1 = x then fitsWR fed line ws (k + 1) (loadR fed (line * 8 + (3 + k)) st).2 else (false,(loadR fed (line * 8 + (3 + k)) st).2)
def fitsR (fed : List Nat) (line : Nat) (s : List UInt8) (st : RSt) : Bool × RSt :=
 if (loadR fed (line * 8 + 2) st).1 = s.length then fitsWR fed line (wordsN s) 0 (loadR fed (line * 8 + 2) st).2 else (false,(loadR fed (line * 8 + 2) st).2)
theorem wordsN_drop (s : List UInt8) {j : Nat} (hj : j < (s.length + 7) / 8) : (wordsN s).drop j = wordAt s j :: (wordsN s).drop (j + 1) := by
 have hjw : j < (wordsN s).length := by rw [wordsN_length];exact hj
 rw [List.drop_eq_getElem_cons hjw]
 congr 1
 simp [wordsN]
variable {R : Nat} {FA : Option Addr} {nf cf : Nat} {fed : List Nat} {st : RSt}
set_option maxRecDepth 100000 in
set_option maxHeartbeats 4000000 in
theorem fitsR_any (line : Nat) (q : Int) (s : ByteArray) (W : World) (hq : q = (line : Int)) (hln : line < 1024) (h1 : 1 <= s.size) (h40 : s.size <= 40) (hl : st.1.length <= 90000) (hnf : nf <= 100000) (hx64 : ∀ x ∈ fed,x < 18446744073709551616) (h : RfAt R FA nf cf fed st W) :
  Calls Tryz.prog 125 #[.pointer (some ⟨R,0,none⟩),.int .i64 q,.string s] W fun e W' => e = .returned (.bool (fitsR fed line (bytesOf s) st).1) ∧ RfAt R FA nf cf fed (fitsR fed line (bytesOf s) st).2 W' ∧ RB R W.heap.size W W' := by
 subst hq
 have hlenb : (bytesOf s).length = s.size := rfl
 have HFP : Hid (fitsR fed line (bytesOf s) st = if (loadR fed (line * 8 + 2) st).1 = s.size then fitsWR fed line (wordsN (bytesOf s)) 0 (loadR fed (line * 8 + 2) st).2 else (false,(loadR fed (line * 8 + 2) st).2)) := rfl
 have hL1 := loadR_len fed (line * 8 + 2) st
 have hy64 := loadR_lt hx64 (line * 8 + 2) st
 have HL1 := Lib.hid (loadR_any (line * 8 + 2) (8 * (line : Int) + 2) W (by omega) (by omega) hnf hx64 h)
 have HL2 := Lib.hid (fun (j : Nat) (q : Int) (st' : RSt) (W1 : World) (hq : q = ((line * 8 + (3 + j) : Nat) : Int)) (hst : st'.1.length <= 99000) (h1 : RfAt R FA nf cf fed st' W1) => loadR_any (line * 8 + (3 + j)) q W1 hq (by omega) hnf hx64 h1)
 have hRl := h.rd.lt
 generalize hyr : loadR fed (line * 8 + 2) st = r1 at *
 obtain ⟨y,st1⟩ := r1
 have hu : IntKind.u64.wrap (s.size : Int) = (s.size : Int) := IntWalk.u64_in _ (by omega)
 have hl0 : (0 : Int) <= 8 * (line : Int) := by omega
 have hl1 : 8 * (line : Int) <= 8192 := by omega
 have hw1 : IntKind.i64.wrap (8 * (line : Int)) = 8 * (line : Int) := IntWalk.i64_in _ (by omega)
 have HX := Lib.hid hx64
 clear h hyr hx64 hlenb
 simp only at *
 by_cases hy : y = s.size
 ·subst hy
  have HEF0 : Hid (fitsR fed line (bytesOf s) st = fitsWR fed line (wordsN (bytesOf s)) 0 st1) := by rw [Hid,HFP.out,if_pos rfl]
  have hne : ((s.size : Int) != (s.size : Int)) = false := by simp
  have HW := Lib.hid (fun W => refWords6_any s W h1 h40)
  have HWD := Lib.hid (fun j => wordsN_drop (bytesOf s) (j := j))
  have HWL := Lib.hid (wordsN_length (bytesOf s))
  unfold encF at HW
  obtain ⟨m,HM,hm5⟩ : ∃ m : Nat,Hid ((s.size + 7) / 8 = m) ∧ m <= 5 := ⟨_,rfl,by omega⟩
  have hmI : ((s.size : Int) + 7) / 8 = (m : Int) := by rw [<- HM.out];omega
  obtain ⟨n,hn⟩ : ∃ n,s.size = n := ⟨_,rfl⟩
  go_enter Tryz.func125,Tryz.ntmps125
  go_wp2_with fail
  refine HL1.out.mono ?_
  rintro e w1 ⟨rfl,hr1,hb1⟩
  have hs1 := hb1.size
  go_wp2_with fail
  refine (HW.out _).mono ?_
  rintro e w2 ⟨rfl,hb2⟩
  have hr2 := hr1.below hb2
  have hs2 := hb2.size
  have HB2 := Lib.hid (hb1.trans ((RB.of_below hb2 hr1.rd.lt).mono hs1))
  clear hb1 hb2 hr1
  obtain ⟨w3,hw3⟩ : ∃ w3,w2.alloc (.cells #[.int .u64 (wordAt (bytesOf s) 0 : Nat),.int .u64 (wordAt (bytesOf s) 1 : Nat),.int .u64 (wordAt (bytesOf s) 2 : Nat),.int .u64 (wordAt (bytesOf s) 3 : Nat),.int .u64 (wordAt (bytesOf s) 4 : Nat)] 190) = w3 := ⟨_,rfl⟩
  have hb3 : Below w2.heap.size w2 w3 := by rw [<- hw3];exact (Below.refl _ _).alloc (Nat.le_refl _) _
  have hs3 : w3.heap.size = w2.heap.size + 1 := by rw [<- hw3];simp
  have hCE : ∀ j,j < 5 -> w3.cell? ⟨w2.heap.size,j,none⟩ = some (.int .u64 (wordAt (bytesOf s) j : Nat)) := fun j hj => by
   rw [<- hw3]
   match j,hj with
   | 0,_ => exact cell_new w2 _ _ 0 _ rfl
   | 1,_ => exact cell_new w2 _ _ 1 _ rfl
   | 2,_ => exact cell_new w2 _ _ 2 _ rfl
   | 3,_ => exact cell_new w2 _ _ 3 _ rfl
   | 4,_ => exact cell_new w2 _ _ 4 _ rfl
  have HCE := Lib.hid hCE
  have HF3 := Lib.hid (hr2.rd.free_new hb3 (Nat.le_refl w2.heap.size))
  have HR3 := Lib.hid (hr2.below hb3)
  have HB3 := Lib.hid (HB2.out.trans ((RB.of_below hb3 hr2.rd.lt).mono (by omega)))
  clear hCE hb3 hr2
  go_wp2_with fail
  clear hw3
  go_loopw [8] (fun i wr => ∃ (j : Nat) (st' : RSt),j <= m ∧ i = .int .i64 j ∧ RfAt R FA nf cf fed st' wr ∧ RB R w3.heap.size w3 wr ∧ Hid (fitsR fed line (bytesOf s) st = fitsWR fed line ((wordsN (bytesOf s)).drop j) j st') ∧ Hid (st'.1.length <= st1.1.length + j)) (fun i _ => m - (intOf i).toNat)
  case atStart => exact ⟨0,st1,Nat.zero_le _,rfl,HR3.out,RB.refl _ _ _,HEF0.out,Nat.le_refl _⟩
  case round =>
   obtain ⟨j,st',hj,rfl,hrf,hrb,hef,hlj⟩ := hrel
   by_cases hlt : j < m
   ·have hdrop := HWD.out j (by show j < (s.size + 7) / 8;rw [HM.out];exact hlt)
    have HEF1 : Hid (fitsR fed line (bytesOf s) st = if (loadR fed (line * 8 + (3 + j)) st').1 = wordAt (bytesOf s) j then fitsWR fed line ((wordsN (bytesOf s)).drop (j + 1)) (j + 1) (loadR fed (line * 8 + (3 + j)) st').2 else (false,(loadR fed (line * 8 + (3 + j)) st').2)) := by rw [Hid,hef.out,hdrop];rfl
    have hcx := (hrb.cell (b := w2.heap.size) (off := j) (by omega) HF3.out).trans (HCE.out j (by omega))
    have hFX := (hrb.keep w2.heap.size (by omega) HF3.out).2
    have hll := hlj.out
    have hstl : st'.1.length <= 99000 := by omega
    have hl2 := loadR_len fed (line * 8 + (3 + j)) st'
    have hj0 : (0 : Int) <= (j : Int) := by omega
    have hjm : (j : Int) < (m : Int) := by omega
    have hj5 : (j : Int) < 5 := by omega
    have hLC := HL2.out j (8 * (line : Int) + 3 + (j : Int)) st' wr.drew (by omega) hstl hrf.drew'
    have hz64 := loadR_lt HX.out (line * 8 + (3 + j)) st'
    have hsr := hrb.size
    have hw2 : IntKind.i64.wrap (8 * (line : Int) + 3) = 8 * (line : Int) + 3 := IntWalk.i64_in _ (by omega)
    have hw4 : IntKind.i64.wrap (8 * (line : Int) + 3 + (j : Int)) = 8 * (line : Int) + 3 + (j : Int) := IntWalk.i64_in _ (by omega)
    have hjn : IntKind.i64.wrap ((j : Int) + 1) = ((j + 1 : Nat) : Int) := by rw [IntWalk.i64_in _ (by omega)];omega
    generalize loadR fed (line * 8 + (3 + j)) st' = r2 at *
    obtain ⟨z,st2⟩ := r2
    generalize wordAt (bytesOf s) j = x at hcx HEF1
    have HLC := Lib.hid hLC
    simp only at *
    have hHX : w2.heap.size < wr.drew.heap.size := by show w2.heap.size < wr.heap.size;omega
    have hFXd : FreeAt R wr.drew w2.heap.size := hFX
    have hcxd : wr.drew.cell? ⟨w2.heap.size,j,none⟩ = some (.int .u64 (x : Nat)) := hcx
    have HHX := Lib.hid hHX
    have HFXd := Lib.hid hFXd
    clear hdrop hef hlj hLC hHX hFXd hFX hcx
    by_cases hzx : z = x
    ·subst hzx
     have HEF2 : Hid (fitsR fed line (bytesOf s) st = fitsWR fed line ((wordsN (bytesOf s)).drop (j + 1)) (j + 1) st2) := by rw [Hid,HEF1.out,if_pos rfl]
     have hnz : ((z : Int) != (z : Int)) = false := by simp
     have HRB := Lib.hid (hrb.trans (RB.drew' _ _ wr))
     clear hrf hrb
     go_wp2_with fail
     go_region_held3 (fun w1 => w1.cell? ⟨w2.heap.size,j,none⟩ = some (.int .u64 (z : Nat)))
      (first | assumption | exact (hb5.cell HHX.out HFXd.out).trans (by assumption))
      ((go_at_call 75;refine HLC.out.mono ?_;rintro e w5 ⟨rfl,hr5,hb5⟩))
     all_goals
      have HB5 := Lib.hid (HRB.out.trans (hb5.mono (by simp;omega)))
      clear hb5
      go_wp2_with fail
      go_roundw
      case rel => exact ⟨j + 1,st2,by omega,rfl,hr5,HB5.out,HEF2.out,by rw [Hid];omega⟩
      case measure => simp [intOf];omega
    ·have HEF2 : Hid (fitsR fed line (bytesOf s) st = (false,st2)) := by rw [Hid,HEF1.out,if_neg hzx]
     have hnz : ((z : Int) != (x : Int)) = true := by rw [bne_iff_ne];omega
     have HRB := Lib.hid (hrb.trans (RB.drew' _ _ wr))
     clear hrf hrb
     go_wp2_with fail
     go_region_held3 (fun w1 => w1.cell? ⟨w2.heap.size,j,none⟩ = some (.int .u64 (x : Nat)))
      (first | assumption | exact (hb5.cell HHX.out HFXd.out).trans (by assumption))
      ((go_at_call 75;refine HLC.out.mono ?_;rintro e w5 ⟨rfl,hr5,hb5⟩))
     all_goals
      have HB5 := Lib.hid (HB3.out.trans ((HRB.out.trans (hb5.mono (by simp;omega))).mono (by have := HB3.out.size;omega)))
      clear hb5
      go_wp2_with fail
      go_ret
      rw [HEF2.out]
      exact ⟨rfl,hr5,HB5.out⟩
   ·have hjm : j = m := by omega
    subst hjm
    have HEF2 : Hid (fitsR fed line (bytesOf s) st = (true,st')) := by
     rw [Hid,hef.out,List.drop_eq_nil_of_le (by rw [HWL.out];have := HM.out;show (s.size + 7) / 8 <= _;omega)]
     rfl
    have HBR := Lib.hid (HB3.out.trans (hrb.mono (by have := HB3.out.size;omega)))
    clear hef hlj hrb
    go_wp2_with fail
    go_ret
    rw [HEF2.out]
    exact ⟨rfl,hrf,HBR.out⟩
 ·have HEF0 : Hid (fitsR fed line (bytesOf s) st = (false,st1)) := by rw [Hid,HFP.out,if_neg hy]
  have hne : ((y : Int) != (s.size : Int)) = true := by rw [bne_iff_ne];omega
  go_enter Tryz.func125,Tryz.ntmps125
  go_wp2_with fail
  refine HL1.out.mono ?_
  rintro e w1 ⟨rfl,hr1,hb1⟩
  go_wp2_with fail
  go_ret
  rw [HEF0.out]
  exact ⟨rfl,hr1,hb1⟩
end
section
open Go.RowKit
set_option maxRecDepth 100000 in
set_option maxHeartbeats 1000000 in
theorem refMore_any (xs : List Nat) (A : Option Addr) (n c s : Nat) (w : World) (hn : xs.length = n) (hm : n <= 100000) (hx : ∀ x ∈ xs,x < 18446744073709551616) (hs : s < 18446744073709551616) (h : RowAt w A (xs.map encW)) :
  Calls Tryz.prog 259 #[.int .u64 s,.slice A n c] w fun e w' => e = .returned (.int .u64 (moreN s xs : Nat)) ∧ w' = w := by
 have HN := Lib.hid hn
 have HR := Lib.hid h
 have HX := Lib.hid hx
 have HS := Lib.hid hs
 clear h hn hx hs
 go_enter Tryz.func259,Tryz.ntmps259
 go_wp2_with fail
 go_loopw [0,5] (fun z i wr => ∃ k : Nat,k <= n ∧ i = .int .i64 k ∧ z = .int .u64 (moreN s (xs.take k) : Nat) ∧ wr = w) (fun _ i _ => n - (intOf i).toNat)
 case atStart => exact ⟨0,Nat.zero_le _,rfl,rfl,rfl⟩
 case round =>
  obtain ⟨k,hk,rfl,rfl,rfl⟩ := hrel
  by_cases hlt : k < n
  ·have hkl : k < xs.length := by rw [HN.out];exact hlt
   obtain ⟨b,off,rfl,hbw,hcx⟩ := HR.out.get (k := k) (u := encW xs[k]) (by rw [List.getElem?_map,List.getElem?_eq_getElem hkl];rfl)
   have hx64 := HX.out xs[k] (List.getElem_mem hkl)
   have HT := Lib.hid (moreN_take (s := s) hkl)
   have HL := Lib.hid (moreN_lt (xs.take k) HS.out)
   unfold encW at hcx
   generalize xs[k] = x at *
   generalize moreN s (xs.take k) = m at *
   have h1 := mix_xor m x HL.out hx64
   have h2 := u64_xor_nat m x HL.out hx64
   rw [h2] at h1
   generalize m ^^^ x = y at *
   go_wp2_with fail
   exact ⟨⟨k + 1,by omega,by go_num,by rw [HT.out],trivial⟩,by simp [intOf];omega⟩
  ·obtain rfl : k = n := by omega
   have HE : Hid (xs.take k = xs) := List.take_of_length_le (by rw [HN.out];exact Nat.le_refl _)
   go_wp2_with fail
   go_ret
   exact ⟨by rw [HE.out];rfl,rfl⟩
set_option maxRecDepth 100000 in
theorem refOf_any (xs : List Nat) (A : Option Addr) (n c : Nat) (w : World) (hn : xs.length = n) (hm : n <= 100000) (hx : ∀ x ∈ xs,x < 18446744073709551616) (h : RowAt w A (xs.map encW)) :
  Calls Tryz.prog 226 #[.slice A n c] w fun e w' => e = .returned (.int .u64 (moreN 14695981039346656037 xs : Nat)) ∧ w' = w := by
 have HM := refMore_any xs A n c 14695981039346656037 w hn hm hx (by decide) h
 generalize moreN 14695981039346656037 xs = y at *
 have HM := Lib.hid HM
 clear h hx hn
 go_enter Tryz.func226,Tryz.ntmps226
 go_wp2_with fail
 refine HM.out.mono ?_
 rintro e w1 ⟨rfl,rfl⟩
 go_wp2_with fail
 go_ret
 exact ⟨rfl,rfl⟩
set_option maxRecDepth 100000 in
set_option maxHeartbeats 1000000 in
theorem refText_any (bs : List UInt8) (A : Option Addr) (n c : Nat) (w : World) (hn : bs.length = n) (hm : n <= 300) (h : RowAt w A (bs.map encB)) :
  Calls Tryz.prog 182 #[.slice A n c] w fun e w' => e = .returned (.int .u64 (textN bs : Nat)) ∧ Below w.heap.size w w' := by
 obtain ⟨i0,hi,hz0,hz1,hz2⟩ := info_parts Tryz.infoU64
 have HW := Lib.hid (refwords_any bs A n c w hn (by omega) h)
 have HN := Lib.hid hn
 have hu : IntKind.u64.wrap (n : Int) = (n : Int) := IntWalk.u64_in _ (by omega)
 have H1 : Hid (∀ l : List Nat,∀ u ∈ l.map encW,u.oneCell' = true) := fun l u hu => by
  obtain ⟨x,_,rfl⟩ := List.mem_map.1 hu;rfl
 clear h hn
 go_enter Tryz.func182,Tryz.ntmps182
 go_wp2_with fail
 refine HW.out.mono ?_
 rintro e w1 ⟨v,rfl,hown,hb1⟩
 have HO := Lib.hid hown
 have HB1 := Lib.hid hb1
 clear hown hb1
 have hsz := HB1.out.size
 have HRO : Hid (∀ t,RowAt (w1.alloc (.cells #[.int .u64 n] t)) (some ⟨w1.heap.size,0,none⟩) [encW n]) := fun t =>
  row_of_own (World.ownsRow_lit w1 #[encW n] 1 (Nat.le_refl _) (by simp [maxLen]) (by simp))
 go_wp2_with (at_builtin;refine wpList_append_row _ (by rfl) (.tmp 4) (.tmp 8) 23 rfl w.heap.size 24 i0 (.int .u64 0) 8 Tryz.underlying23 hi hz0 hz1 hz2 rfl _ ((n + 7) / 8) ((wordsN bs).map encW) rfl (HO.out.alloc _) (some ⟨w1.heap.size,0,none⟩) 1 1 [encW n] rfl rfl (HRO.out _) (H1.out [n]) ?c1 ?c2 ?c3 ?_)
 case c1 => unfold maxLen;omega
 case c2 => omega
 case c3 => simp;omega
 intro v1 w2 hown1 hg1
 have HLT := Lib.hid (HO.out.lt)
 have HB2 : Hid (Below w.heap.size w w2) := (HB1.out.alloc hsz _).grown hg1 (by simp;omega) (fun r e => (HLT.out r e).1)
 have HT : Hid (textN bs = moreN 14695981039346656037 (wordsN bs ++ [n])) := by unfold textN;rw [HN.out];rfl
 have hown2 : w2.ownsRow w.heap.size 24 1 v1 ((n + 7) / 8 + 1) ((wordsN bs ++ [n]).map encW) := by rw [List.map_append];exact hown1
 clear hown1 hg1 HLT HRO HO
 obtain ⟨m,hm1⟩ : ∃ m : Nat,(n + 7) / 8 + 1 = m := ⟨_,rfl⟩
 rw [hm1] at hown2
 obtain ⟨A2,c2,rfl,hc2,hcm2⟩ := owns_slice hown2
 have HOF := Lib.hid (refOf_any (wordsN bs ++ [n]) A2 m c2 w2 (by rw [List.length_append,wordsN_length,HN.out];exact hm1) (by omega) (fun x hx => by
  rcases List.mem_append.1 hx with h | h
  ·exact wordsN_lt x h
  ·rw [List.mem_singleton.1 h];omega) (row_of_own hown2))
 clear hown2
 go_wp2_with fail
 refine HOF.out.mono ?_
 rintro e w3 ⟨rfl,rfl⟩
 go_wp2_with fail
 go_ret
 exact ⟨by rw [HT.out];rfl,HB2.out⟩
set_option maxRecDepth 100000 in
set_option maxHeartbeats 1000000 in
theorem refBucket_any (s : ByteArray) (w : World) (h40 : s.size <= 200) :
  Calls Tryz.prog 124 #[.string s] w fun e w' => e = .returned (.int .i64 (bucketN (bytesOf s) : Nat)) ∧ Below w.heap.size w w' := by
 have hconv := fun W => Lib.run_convert_string_bytes (P := Tryz.prog) W 9 26 5 s Tryz.underlyingStr Tryz.underlyingBytes Tryz.underlyingByte
 have hrem := rem_seven (textN (bytesOf s))
 have hb7 : (textN (bytesOf s) % 7 : Nat) < 7 := Nat.mod_lt _ (by decide)
 have HBN : Hid (bucketN (bytesOf s) = textN (bytesOf s) % 7) := rfl
 go_enter Tryz.func124,Tryz.ntmps124
 go_wp2_with fail
 have hbB := below_bytes w 5 s
 have hrow := row_bytes w 5 s
 clear hconv
 refine (refText_any (bytesOf s) _ s.size _ _ rfl (by omega) hrow).mono ?_
 rintro e w3 ⟨rfl,hb3⟩
 have HB3 := Lib.hid (hbB.trans (hb3.mono (by rw [Lib.bytesWorld_size];omega)))
 clear hb3 hrow hbB
 generalize textN (bytesOf s) = t at *
 generalize t % 7 = r at *
 have hu : IntKind.i64.wrap (r : Int) = (r : Int) := IntWalk.i64_in _ (by omega)
 go_wp2_with fail
 go_ret
 exact ⟨by rw [HBN.out];rfl,HB3.out⟩
end
end Go.Proofs.YtdpooagnbmpinaaGreatDoor
