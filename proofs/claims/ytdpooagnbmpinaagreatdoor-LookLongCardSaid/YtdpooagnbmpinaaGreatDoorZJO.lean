import Derived.Test.YtdpooagnbmpinaaGreatDoorZJI
import Derived.Test.YtdpooagnbmpinaaGreatDoorZI8
import Derived.Test.YtdpooagnbmpinaaGreatDoorZFD
import Derived.BigQuiet
namespace Go.Proofs.YtdpooagnbmpinaaGreatDoor
section
open Go.RowKit
attribute [local go_sem] Oper.semAt_some
theorem readP_names (s : List UInt8) (h : (readP s).1 = 0) : (readP s).2.length <= 100 ∧ ∀ x ∈ (readP s).2,rightB x = true := by
 rcases readP_cases s with ⟨_,h2,h3⟩ | ⟨h1,_⟩
 ·exact ⟨by have := h2.1;omega,List.all_eq_true.1 h3⟩
 ·omega
theorem askOR_no (k : Int) (a n : Nat) (fed : List Nat) {t : WalkV} (st : RSt) (h : t.2.2 ≠ 0) : askOR k a n fed t st = (failsR t.2.2,st) := if_pos h
theorem askOR_1 (a n : Nat) (fed : List Nat) (ln : Nat) (nd : Nat × Nat × Nat) (st : RSt) : askOR 1 a n fed (ln,nd,0) st = statR fed nd st := by
 unfold askOR
 rw [if_neg (fun h => h rfl),if_pos rfl]
theorem askOR_2n (a n : Nat) (fed : List Nat) (ln : Nat) (nd : Nat × Nat × Nat) (st : RSt) (h : nd.1 ≠ 2) : askOR 2 a n fed (ln,nd,0) st = (failsR 201,st) := by
 unfold askOR
 rw [if_neg (fun h => h rfl),if_neg (by decide),if_pos rfl,if_pos h]
theorem askOR_2 (a n : Nat) (fed : List Nat) (ln : Nat) (nd : Nat × Nat × Nat) (st : RSt) (h : nd.1 = 2) : askOR 2 a n fed (ln,nd,0) st = listR fed nd st := by
 unfold askOR
 rw [if_neg (fun h => h rfl),if_neg (by decide),if_pos rfl,if_neg (fun e => e h)]
theorem askOR_3n (a n : Nat) (fed : List Nat) (ln : Nat) (nd : Nat × Nat × Nat) (st : RSt) (h : nd.1 ≠ 1) : askOR 3 a n fed (ln,nd,0) st = (failsR 204,st) := by
 unfold askOR
 rw [if_neg (fun h => h rfl),if_neg (by decide),if_neg (by decide),if_pos h]
theorem askOR_3 (a n : Nat) (fed : List Nat) (ln : Nat) (nd : Nat × Nat × Nat) (st : RSt) (h : nd.1 = 1) : askOR 3 a n fed (ln,nd,0) st = readRR fed nd.2.2 a n st := by
 unfold askOR
 rw [if_neg (fun h => h rfl),if_neg (by decide),if_neg (by decide),if_neg (fun e => e h)]
variable {R : Nat} {FA : Option Addr} {nf cf : Nat} {fed : List Nat} {st : RSt}
set_option maxRecDepth 200000 in
set_option maxHeartbeats 8000000 in
theorem askR_any (k : Int) (p d : ByteArray) (a n : Int) (A : Option Addr) (m c : Nat) (W : World) (hk : 1 <= k ∧ k <= 3) (hp : p.size < 4294967281) (h0 : (readP (bytesOf p)).1 = 0) (ha : k = 3 -> 0 <= a ∧ 0 <= n) (ha2 : a < 9223372036854775808) (hn2 : n < 9223372036854775808)
  (hok : OkSt fed st) (hnf : nf <= 20000) (hx64 : ∀ x ∈ fed,x < 18446744073709551616) (h : RfAt R FA nf cf fed st W) :
  Calls Tryz.prog 24 #[.pointer (some ⟨R,0,none⟩),opV k p d a n A m c] W (RefRes R FA nf cf fed W (askR k a.toNat n.toNat fed (readP (bytesOf p)).2 st)) := by
 obtain ⟨W0,hW0⟩ : ∃ W0,(W.alloc (.cells #[.int .i64 k,.string p,.string d,.int .i64 a,.int .i64 n,.slice A m c] 28)).alloc (.cells #[.int .i64 0,.int .i64 0,.int .i64 0,.int .i64 0,.slice none 0 0,.slice none 0 0] 33) = W0 := ⟨_,rfl⟩
 have hb0 : Below W.heap.size W W0 := by rw [<- hW0];exact ((Below.refl _ _).alloc (Nat.le_refl _) _).alloc (by simp) _
 have hs0 : W0.heap.size = W.heap.size + 2 := by rw [<- hW0];simp
 have hRl := h.rd.lt
 have hc0 : CellsAt W0 W.heap.size 6 (cellsOp k p d a n A m c) := by
  rw [<- hW0]
  exact (cellsAt_new W _ _ 6 _ fun i hi => match i,hi with | 0,_ => rfl | 1,_ => rfl | 2,_ => rfl | 3,_ => rfl | 4,_ => rfl | 5,_ => rfl).below (m := W.heap.size + 1) ((Below.refl _ _).alloc (by simp) _) (by omega)
 have hc1 : CellsAt W0 (W.heap.size + 1) 6 zeroO := by
  rw [<- hW0]
  have := cellsAt_new (W.alloc (.cells #[.int .i64 k,.string p,.string d,.int .i64 a,.int .i64 n,.slice A m c] 28)) #[.int .i64 0,.int .i64 0,.int .i64 0,.int .i64 0,.slice none 0 0,.slice none 0 0] 33 6 zeroO fun i hi => match i,hi with | 0,_ => rfl | 1,_ => rfl | 2,_ => rfl | 3,_ => rfl | 4,_ => rfl | 5,_ => rfl
  rw [show (W.alloc (.cells #[.int .i64 k,.string p,.string d,.int .i64 a,.int .i64 n,.slice A m c] 28)).heap.size = W.heap.size + 1 from by simp] at this
  exact this
 have C0 := Lib.hid (ownC_fresh h hb0 (Nat.le_refl _) (by omega) hc0)
 have C1 := Lib.hid (ownC_fresh h hb0 (Nat.le_succ _) (by omega) hc1)
 have H0 := Lib.hid (h.below hb0)
 have HB0 := Lib.hid (RB.of_below hb0 hRl)
 have HW0 := Lib.hid hW0
 obtain ⟨h100,hright⟩ := readP_names _ h0
 have HSP := refsplit_any p W0 hp
 unfold SplitPPost at HSP
 generalize readP (bytesOf p) = rp at *
 obtain ⟨z,nm⟩ := rp
 simp only at *
 subst h0
 have hHSP := Lib.hid HSP
 have HWK := Lib.hid (fun (NA : Option Addr) (cn : Nat) (w1 : World) (hcn : nm.length <= cn) (hrn : RowAt w1 NA (nm.map fun x => .string (ofBytes x))) (hNA : 0 < nm.length -> ∀ b off,NA = some ⟨b,off,none⟩ -> FreeAt R w1 b) (h1 : RfAt R FA nf cf fed st w1) =>
  walkR_free nm NA nm.length cn w1 rfl h100 hcn hright hrn hNA hok hnf hx64 h1)
 have HFL := Lib.hid fails22_any
 have hok2 := walkR_ok nm st hok
 have hgood := walkR_good (fed := fed) nm st
 have HE : Hid (askR k a.toNat n.toNat fed nm st = askOR k a.toNat n.toNat fed (walkR fed nm st).1 (walkR fed nm st).2) := rfl
 generalize askR k a.toNat n.toNat fed nm st = r at *
 generalize walkR fed nm st = wq at *
 obtain ⟨⟨ln,⟨kd,lk,tp⟩,no⟩,st2⟩ := wq
 simp only at hok2 hgood HE HWK
 have HEV : Hid (encWV (ln,(kd,lk,tp),no) = .tuple #[.int .i64 ln,.agg #[.int .i64 kd,.int .i64 lk,.int .i64 tp],.int .i64 no]) := rfl
 have HST := Lib.hid (fun (W1 : World) (hg : NodeOK (kd,lk,tp)) (h1 : RfAt R FA nf cf fed st2 W1) => statR_any kd lk tp W1 hg.2.2.1 hg.1 hg.2.1 hok2 hnf hx64 h1)
 have HLI := Lib.hid (fun (W1 : World) (hg : NodeOK (kd,lk,tp)) (h1 : RfAt R FA nf cf fed st2 W1) => listR_any kd lk tp W1 hg.2.2.1 hg.1 hg.2.1 hok2 hnf hx64 h1)
 have HRE := Lib.hid (fun (W1 : World) (a' n' : Nat) (ha' : a' < 9223372036854775808) (hn' : n' < 9223372036854775808) (hg : NodeOK (kd,lk,tp)) (h1 : RfAt R FA nf cf fed st2 W1) => readR_any kd lk tp a' n' W1 hg.2.2.1 hg.1 hg.2.1 ha' hn' hok2 hnf hx64 h1)
 have HOK2 := Lib.hid hok2
 have HG := Lib.hid hgood
 have HA := Lib.hid ha
 clear h hb0 hc0 hc1 hW0 hx64 hok hok2 hgood hright HSP ha
 unfold opV
 have hways : (no ≠ 0) ∨ (no = 0 ∧ k = 1) ∨ (no = 0 ∧ k = 2 ∧ kd ≠ 2) ∨ (no = 0 ∧ k = 2 ∧ kd = 2) ∨ (no = 0 ∧ k = 3 ∧ kd ≠ 1) ∨ (no = 0 ∧ k = 3 ∧ kd = 1) := by omega
 rcases hways with hno' | ⟨rfl,hk1⟩ | ⟨rfl,hk1,hkd'⟩ | ⟨rfl,hk1,hkd'⟩ | ⟨rfl,hk1,hkd'⟩ | ⟨rfl,hk1,hkd'⟩
 ·have hno : ((no : Int) != 0) = true := by rw [bne_iff_ne];omega
  have HE2 : Hid (r = (failsR no,st2)) := HE.out.trans (askOR_no _ _ _ _ _ hno')
  go_enter Tryz.func24,Tryz.ntmps24
  go_wp2_with fail
  rw [HW0.out]
  refine hHSP.out.mono ?_
  rintro e w1 ⟨v,rfl,⟨NA,cn,rfl,hcn,hcm,hrn⟩,hb1,hfr⟩
  have hs1 := hb1.size
  have D0 := Lib.hid (C0.out.below (by omega) hb1)
  have D1 := Lib.hid (C1.out.below (by omega) hb1)
  have H1 := Lib.hid (H0.out.below hb1)
  have HB1 := Lib.hid (HB0.out.trans ((RB.of_below hb1 (by omega)).mono (by omega)))
  have HWK1 := Lib.hid (HWK.out NA cn w1 hcn hrn (fun _ b off e => H0.out.rd.free_new hb1 (hfr _ _ _ rfl _ e)) H1.out)
  clear hrn hfr hb1 hcn hcm
  go_wp2_with fail
  refine HWK1.out.mono ?_
  rintro e w2 ⟨he,h2,hb2⟩
  rw [HEV.out] at he
  subst he
  have hs2 := hb2.size
  have E0 := Lib.hid (D0.out.rb hb2)
  have E1 := Lib.hid (D1.out.rb hb2)
  have H2 := Lib.hid h2
  have HB2 := Lib.hid (HB1.out.trans (hb2.mono (by omega)))
  clear hb2 h2
  obtain ⟨w3,hw3⟩ : ∃ w3,w2.alloc (.cells #[.int .i64 kd,.int .i64 lk,.int .i64 tp] 46) = w3 := ⟨_,rfl⟩
  have hb3 : Below w2.heap.size w2 w3 := by rw [<- hw3];exact (Below.refl _ _).alloc (Nat.le_refl _) _
  have hs3 : w3.heap.size = w2.heap.size + 1 := by rw [<- hw3];simp
  have hc3 : CellsAt w3 w2.heap.size 3 (ndO kd lk tp) := by
   rw [<- hw3]
   exact cellsAt_new _ _ _ _ _ fun i hi => match i,hi with | 0,_ => rfl | 1,_ => rfl | 2,_ => rfl
  have i0 : w3.cell? ⟨w2.heap.size,0,none⟩ = some (.int .i64 kd) := hc3.1 0 (by omega)
  have i1 : w3.cell? ⟨w2.heap.size,1,none⟩ = some (.int .i64 lk) := hc3.1 1 (by omega)
  have i2 : w3.cell? ⟨w2.heap.size,2,none⟩ = some (.int .i64 tp) := hc3.1 2 (by omega)
  have F0 := Lib.hid (E0.out.below (by omega) hb3)
  have F1 := Lib.hid (E1.out.below (by omega) hb3)
  have H3 := Lib.hid (H2.out.below hb3)
  have HB3 := Lib.hid (HB2.out.trans ((RB.of_below hb3 (by omega)).mono (by omega)))
  have o0 : w3.cell? ⟨W.heap.size,0,none⟩ = some (.int .i64 k) := F0.out.cells.1 0 (by omega)
  have o3 : w3.cell? ⟨W.heap.size,3,none⟩ = some (.int .i64 a) := F0.out.cells.1 3 (by omega)
  have o4 : w3.cell? ⟨W.heap.size,4,none⟩ = some (.int .i64 n) := F0.out.cells.1 4 (by omega)
  clear hb3 hc3
  go_wp2_with fail
  refine (HFL.out _ _).mono ?_
  rintro e w4 ⟨rfl,hb4⟩
  have G1 := Lib.hid (F1.out.below (by omega) hb4)
  have H4 := Lib.hid (H3.out.below hb4)
  have HB4 := Lib.hid (HB3.out.trans ((RB.of_below hb4 (by omega)).mono (by omega)))
  clear hb4 hw3
  have z0 : w4.cell? ⟨W.heap.size + 1,0,none⟩ = some (.int .i64 0) := G1.out.cells.1 0 (by omega)
  have z1 : w4.cell? ⟨W.heap.size + 1,1,none⟩ = some (.int .i64 0) := G1.out.cells.1 1 (by omega)
  have z2 : w4.cell? ⟨W.heap.size + 1,2,none⟩ = some (.int .i64 0) := G1.out.cells.1 2 (by omega)
  have z3 : w4.cell? ⟨W.heap.size + 1,3,none⟩ = some (.int .i64 0) := G1.out.cells.1 3 (by omega)
  have z4 : w4.cell? ⟨W.heap.size + 1,4,none⟩ = some (.slice none 0 0) := G1.out.cells.1 4 (by omega)
  have z5 : w4.cell? ⟨W.heap.size + 1,5,none⟩ = some (.slice none 0 0) := G1.out.cells.1 5 (by omega)
  have zf : ∀ i,w4.frozen? ⟨W.heap.size + 1,i,none⟩ = false := G1.out.cells.2
  go_wp2_with fail
  have HCE : Hid (CellsAt (putTo w4 (W.heap.size + 1) (cellsO (failsR no) none 0 0 none 0 0) 6) (W.heap.size + 1) 6 (cellsO (failsR no) none 0 0 none 0 0)) := putTo_all G1.out.cells
  have HRE := Lib.hid (H4.out.putTo (X := W.heap.size + 1) (f := cellsO (failsR no) none 0 0 none 0 0) G1.out.free (by omega) 6)
  have HBE := Lib.hid (HB4.out.putTo (X := W.heap.size + 1) (f := cellsO (failsR no) none 0 0 none 0 0) (by omega) G1.out.free.1 6)
  rw [HE2.out]
  exact ask_ret HCE.out (rowsAt_nil _ _ rfl rfl) HRE.out HOK2.out HBE.out rfl
 ·subst hk1
  have HE2 : Hid (r = statR fed (kd,lk,tp) st2) := HE.out.trans (askOR_1 _ _ _ _ _ _)
  have HG2 := Lib.hid (HG.out rfl)
  go_enter Tryz.func24,Tryz.ntmps24
  go_wp2_with fail
  rw [HW0.out]
  refine hHSP.out.mono ?_
  rintro e w1 ⟨v,rfl,⟨NA,cn,rfl,hcn,hcm,hrn⟩,hb1,hfr⟩
  have hs1 := hb1.size
  have D0 := Lib.hid (C0.out.below (by omega) hb1)
  have D1 := Lib.hid (C1.out.below (by omega) hb1)
  have H1 := Lib.hid (H0.out.below hb1)
  have HB1 := Lib.hid (HB0.out.trans ((RB.of_below hb1 (by omega)).mono (by omega)))
  have HWK1 := Lib.hid (HWK.out NA cn w1 hcn hrn (fun _ b off e => H0.out.rd.free_new hb1 (hfr _ _ _ rfl _ e)) H1.out)
  clear hrn hfr hb1 hcn hcm
  go_wp2_with fail
  refine HWK1.out.mono ?_
  rintro e w2 ⟨he,h2,hb2⟩
  rw [HEV.out] at he
  subst he
  have hs2 := hb2.size
  have E0 := Lib.hid (D0.out.rb hb2)
  have E1 := Lib.hid (D1.out.rb hb2)
  have H2 := Lib.hid h2
  have HB2 := Lib.hid (HB1.out.trans (hb2.mono (by omega)))
  clear hb2 h2
  obtain ⟨w3,hw3⟩ : ∃ w3,w2.alloc (.cells #[.int .i64 kd,.int .i64 lk,.int .i64 tp] 46) = w3 := ⟨_,rfl⟩
  have hb3 : Below w2.heap.size w2 w3 := by rw [<- hw3];exact (Below.refl _ _).alloc (Nat.le_refl _) _
  have hs3 : w3.heap.size = w2.heap.size + 1 := by rw [<- hw3];simp
  have hc3 : CellsAt w3 w2.heap.size 3 (ndO kd lk tp) := by
   rw [<- hw3]
   exact cellsAt_new _ _ _ _ _ fun i hi => match i,hi with | 0,_ => rfl | 1,_ => rfl | 2,_ => rfl
  have i0 : w3.cell? ⟨w2.heap.size,0,none⟩ = some (.int .i64 kd) := hc3.1 0 (by omega)
  have i1 : w3.cell? ⟨w2.heap.size,1,none⟩ = some (.int .i64 lk) := hc3.1 1 (by omega)
  have i2 : w3.cell? ⟨w2.heap.size,2,none⟩ = some (.int .i64 tp) := hc3.1 2 (by omega)
  have F0 := Lib.hid (E0.out.below (by omega) hb3)
  have F1 := Lib.hid (E1.out.below (by omega) hb3)
  have H3 := Lib.hid (H2.out.below hb3)
  have HB3 := Lib.hid (HB2.out.trans ((RB.of_below hb3 (by omega)).mono (by omega)))
  have o0 : w3.cell? ⟨W.heap.size,0,none⟩ = some (.int .i64 1) := F0.out.cells.1 0 (by omega)
  have o3 : w3.cell? ⟨W.heap.size,3,none⟩ = some (.int .i64 a) := F0.out.cells.1 3 (by omega)
  have o4 : w3.cell? ⟨W.heap.size,4,none⟩ = some (.int .i64 n) := F0.out.cells.1 4 (by omega)
  clear hb3 hc3
  have HC := Lib.hid (HST.out w3 HG2.out H3.out)
  go_wp2_with fail
  refine HC.out.mono ?_
  rintro e w4 ⟨⟨NA',nn,nc,BA,bn,bc,rfl,hrow⟩,h4,hok4,hb4⟩
  have G1 := Lib.hid (F1.out.rb hb4)
  have H4 := Lib.hid h4
  have HB4 := Lib.hid (HB3.out.trans (hb4.mono (by omega)))
  have HRW := Lib.hid hrow
  have HOK4 := Lib.hid hok4
  have hs4 := hb4.size
  have hlt3 : W.heap.size + 1 < w3.heap.size := by omega
  clear hb4 hw3 hrow hok4 h4 HC
  generalize statR fed (kd,lk,tp) st2 = q at *
  obtain ⟨⟨q0,q1,q2,q3,q4,q5⟩,st4⟩ := q
  simp only at *
  have z0 : w4.cell? ⟨W.heap.size + 1,0,none⟩ = some (.int .i64 0) := G1.out.cells.1 0 (by omega)
  have z1 : w4.cell? ⟨W.heap.size + 1,1,none⟩ = some (.int .i64 0) := G1.out.cells.1 1 (by omega)
  have z2 : w4.cell? ⟨W.heap.size + 1,2,none⟩ = some (.int .i64 0) := G1.out.cells.1 2 (by omega)
  have z3 : w4.cell? ⟨W.heap.size + 1,3,none⟩ = some (.int .i64 0) := G1.out.cells.1 3 (by omega)
  have z4 : w4.cell? ⟨W.heap.size + 1,4,none⟩ = some (.slice none 0 0) := G1.out.cells.1 4 (by omega)
  have z5 : w4.cell? ⟨W.heap.size + 1,5,none⟩ = some (.slice none 0 0) := G1.out.cells.1 5 (by omega)
  have zf : ∀ i,w4.frozen? ⟨W.heap.size + 1,i,none⟩ = false := G1.out.cells.2
  go_wp2_with fail
  have HCE : Hid (CellsAt (putTo w4 (W.heap.size + 1) (cellsO ⟨q0,q1,q2,q3,q4,q5⟩ NA' nn nc BA bn bc) 6) (W.heap.size + 1) 6 (cellsO ⟨q0,q1,q2,q3,q4,q5⟩ NA' nn nc BA bn bc)) := putTo_all G1.out.cells
  have HRE := Lib.hid (H4.out.putTo (X := W.heap.size + 1) (f := cellsO ⟨q0,q1,q2,q3,q4,q5⟩ NA' nn nc BA bn bc) G1.out.free (by omega) 6)
  have HBE := Lib.hid (HB4.out.putTo (X := W.heap.size + 1) (f := cellsO ⟨q0,q1,q2,q3,q4,q5⟩ NA' nn nc BA bn bc) (by omega) G1.out.free.1 6)
  have HRO : Hid (RowsAt W.heap.size (putTo w4 (W.heap.size + 1) (cellsO ⟨q0,q1,q2,q3,q4,q5⟩ NA' nn nc BA bn bc) 6) ⟨q0,q1,q2,q3,q4,q5⟩ NA' nn nc BA bn bc) := (HRW.out.putTo hlt3 6).below (Below.refl _ _) (by omega)
  rw [HE2.out]
  exact ask_ret HCE.out HRO.out HRE.out HOK4.out HBE.out rfl
 ·subst hk1
  have hkd : ((kd : Int) != 2) = true := by rw [bne_iff_ne];omega
  have HE2 : Hid (r = (failsR 201,st2)) := HE.out.trans (askOR_2n _ _ _ _ _ _ hkd')
  have HG2 := Lib.hid (HG.out rfl)
  go_enter Tryz.func24,Tryz.ntmps24
  go_wp2_with fail
  rw [HW0.out]
  refine hHSP.out.mono ?_
  rintro e w1 ⟨v,rfl,⟨NA,cn,rfl,hcn,hcm,hrn⟩,hb1,hfr⟩
  have hs1 := hb1.size
  have D0 := Lib.hid (C0.out.below (by omega) hb1)
  have D1 := Lib.hid (C1.out.below (by omega) hb1)
  have H1 := Lib.hid (H0.out.below hb1)
  have HB1 := Lib.hid (HB0.out.trans ((RB.of_below hb1 (by omega)).mono (by omega)))
  have HWK1 := Lib.hid (HWK.out NA cn w1 hcn hrn (fun _ b off e => H0.out.rd.free_new hb1 (hfr _ _ _ rfl _ e)) H1.out)
  clear hrn hfr hb1 hcn hcm
  go_wp2_with fail
  refine HWK1.out.mono ?_
  rintro e w2 ⟨he,h2,hb2⟩
  rw [HEV.out] at he
  subst he
  have hs2 := hb2.size
  have E0 := Lib.hid (D0.out.rb hb2)
  have E1 := Lib.hid (D1.out.rb hb2)
  have H2 := Lib.hid h2
  have HB2 := Lib.hid (HB1.out.trans (hb2.mono (by omega)))
  clear hb2 h2
  obtain ⟨w3,hw3⟩ : ∃ w3,w2.alloc (.cells #[.int .i64 kd,.int .i64 lk,.int .i64 tp] 46) = w3 := ⟨_,rfl⟩
  have hb3 : Below w2.heap.size w2 w3 := by rw [<- hw3];exact (Below.refl _ _).alloc (Nat.le_refl _) _
  have hs3 : w3.heap.size = w2.heap.size + 1 := by rw [<- hw3];simp
  have hc3 : CellsAt w3 w2.heap.size 3 (ndO kd lk tp) := by
   rw [<- hw3]
   exact cellsAt_new _ _ _ _ _ fun i hi => match i,hi with | 0,_ => rfl | 1,_ => rfl | 2,_ => rfl
  have i0 : w3.cell? ⟨w2.heap.size,0,none⟩ = some (.int .i64 kd) := hc3.1 0 (by omega)
  have i1 : w3.cell? ⟨w2.heap.size,1,none⟩ = some (.int .i64 lk) := hc3.1 1 (by omega)
  have i2 : w3.cell? ⟨w2.heap.size,2,none⟩ = some (.int .i64 tp) := hc3.1 2 (by omega)
  have F0 := Lib.hid (E0.out.below (by omega) hb3)
  have F1 := Lib.hid (E1.out.below (by omega) hb3)
  have H3 := Lib.hid (H2.out.below hb3)
  have HB3 := Lib.hid (HB2.out.trans ((RB.of_below hb3 (by omega)).mono (by omega)))
  have o0 : w3.cell? ⟨W.heap.size,0,none⟩ = some (.int .i64 2) := F0.out.cells.1 0 (by omega)
  have o3 : w3.cell? ⟨W.heap.size,3,none⟩ = some (.int .i64 a) := F0.out.cells.1 3 (by omega)
  have o4 : w3.cell? ⟨W.heap.size,4,none⟩ = some (.int .i64 n) := F0.out.cells.1 4 (by omega)
  clear hb3 hc3
  go_wp2_with fail
  refine (HFL.out _ _).mono ?_
  rintro e w4 ⟨rfl,hb4⟩
  have G1 := Lib.hid (F1.out.below (by omega) hb4)
  have H4 := Lib.hid (H3.out.below hb4)
  have HB4 := Lib.hid (HB3.out.trans ((RB.of_below hb4 (by omega)).mono (by omega)))
  clear hb4 hw3
  have z0 : w4.cell? ⟨W.heap.size + 1,0,none⟩ = some (.int .i64 0) := G1.out.cells.1 0 (by omega)
  have z1 : w4.cell? ⟨W.heap.size + 1,1,none⟩ = some (.int .i64 0) := G1.out.cells.1 1 (by omega)
  have z2 : w4.cell? ⟨W.heap.size + 1,2,none⟩ = some (.int .i64 0) := G1.out.cells.1 2 (by omega)
  have z3 : w4.cell? ⟨W.heap.size + 1,3,none⟩ = some (.int .i64 0) := G1.out.cells.1 3 (by omega)
  have z4 : w4.cell? ⟨W.heap.size + 1,4,none⟩ = some (.slice none 0 0) := G1.out.cells.1 4 (by omega)
  have z5 : w4.cell? ⟨W.heap.size + 1,5,none⟩ = some (.slice none 0 0) := G1.out.cells.1 5 (by omega)
  have zf : ∀ i,w4.frozen? ⟨W.heap.size + 1,i,none⟩ = false := G1.out.cells.2
  go_wp2_with fail
  have HCE : Hid (CellsAt (putTo w4 (W.heap.size + 1) (cellsO (failsR 201) none 0 0 none 0 0) 6) (W.heap.size + 1) 6 (cellsO (failsR 201) none 0 0 none 0 0)) := putTo_all G1.out.cells
  have HRE := Lib.hid (H4.out.putTo (X := W.heap.size + 1) (f := cellsO (failsR 201) none 0 0 none 0 0) G1.out.free (by omega) 6)
  have HBE := Lib.hid (HB4.out.putTo (X := W.heap.size + 1) (f := cellsO (failsR 201) none 0 0 none 0 0) (by omega) G1.out.free.1 6)
  rw [HE2.out]
  exact ask_ret HCE.out (rowsAt_nil _ _ rfl rfl) HRE.out HOK2.out HBE.out rfl
 ·subst hk1
  obtain rfl : kd = 2 := hkd'
  have HEV2 : Hid (encWV (ln,(2,lk,tp),0) = .tuple #[.int .i64 ln,.agg #[.int .i64 2,.int .i64 lk,.int .i64 tp],.int .i64 0]) := rfl
  have HE2 : Hid (r = listR fed (2,lk,tp) st2) := HE.out.trans (askOR_2 _ _ _ _ _ _ rfl)
  have HG2 := Lib.hid (HG.out rfl)
  go_enter Tryz.func24,Tryz.ntmps24
  go_wp2_with fail
  rw [HW0.out]
  refine hHSP.out.mono ?_
  rintro e w1 ⟨v,rfl,⟨NA,cn,rfl,hcn,hcm,hrn⟩,hb1,hfr⟩
  have hs1 := hb1.size
  have D0 := Lib.hid (C0.out.below (by omega) hb1)
  have D1 := Lib.hid (C1.out.below (by omega) hb1)
  have H1 := Lib.hid (H0.out.below hb1)
  have HB1 := Lib.hid (HB0.out.trans ((RB.of_below hb1 (by omega)).mono (by omega)))
  have HWK1 := Lib.hid (HWK.out NA cn w1 hcn hrn (fun _ b off e => H0.out.rd.free_new hb1 (hfr _ _ _ rfl _ e)) H1.out)
  clear hrn hfr hb1 hcn hcm
  go_wp2_with fail
  refine HWK1.out.mono ?_
  rintro e w2 ⟨he,h2,hb2⟩
  rw [HEV2.out] at he
  subst he
  have hs2 := hb2.size
  have E0 := Lib.hid (D0.out.rb hb2)
  have E1 := Lib.hid (D1.out.rb hb2)
  have H2 := Lib.hid h2
  have HB2 := Lib.hid (HB1.out.trans (hb2.mono (by omega)))
  clear hb2 h2
  obtain ⟨w3,hw3⟩ : ∃ w3,w2.alloc (.cells #[.int .i64 2,.int .i64 lk,.int .i64 tp] 46) = w3 := ⟨_,rfl⟩
  have hb3 : Below w2.heap.size w2 w3 := by rw [<- hw3];exact (Below.refl _ _).alloc (Nat.le_refl _) _
  have hs3 : w3.heap.size = w2.heap.size + 1 := by rw [<- hw3];simp
  have hc3 : CellsAt w3 w2.heap.size 3 (ndO 2 lk tp) := by
   rw [<- hw3]
   exact cellsAt_new _ _ _ _ _ fun i hi => match i,hi with | 0,_ => rfl | 1,_ => rfl | 2,_ => rfl
  have i0 : w3.cell? ⟨w2.heap.size,0,none⟩ = some (.int .i64 2) := hc3.1 0 (by omega)
  have i1 : w3.cell? ⟨w2.heap.size,1,none⟩ = some (.int .i64 lk) := hc3.1 1 (by omega)
  have i2 : w3.cell? ⟨w2.heap.size,2,none⟩ = some (.int .i64 tp) := hc3.1 2 (by omega)
  have F0 := Lib.hid (E0.out.below (by omega) hb3)
  have F1 := Lib.hid (E1.out.below (by omega) hb3)
  have H3 := Lib.hid (H2.out.below hb3)
  have HB3 := Lib.hid (HB2.out.trans ((RB.of_below hb3 (by omega)).mono (by omega)))
  have o0 : w3.cell? ⟨W.heap.size,0,none⟩ = some (.int .i64 2) := F0.out.cells.1 0 (by omega)
  have o3 : w3.cell? ⟨W.heap.size,3,none⟩ = some (.int .i64 a) := F0.out.cells.1 3 (by omega)
  have o4 : w3.cell? ⟨W.heap.size,4,none⟩ = some (.int .i64 n) := F0.out.cells.1 4 (by omega)
  clear hb3 hc3
  have HC := Lib.hid (HLI.out w3 HG2.out H3.out)
  go_wp2_with fail
  refine HC.out.mono ?_
  rintro e w4 ⟨⟨NA',nn,nc,BA,bn,bc,rfl,hrow⟩,h4,hok4,hb4⟩
  have G1 := Lib.hid (F1.out.rb hb4)
  have H4 := Lib.hid h4
  have HB4 := Lib.hid (HB3.out.trans (hb4.mono (by omega)))
  have HRW := Lib.hid hrow
  have HOK4 := Lib.hid hok4
  have hs4 := hb4.size
  have hlt3 : W.heap.size + 1 < w3.heap.size := by omega
  clear hb4 hw3 hrow hok4 h4 HC
  generalize listR fed (2,lk,tp) st2 = q at *
  obtain ⟨⟨q0,q1,q2,q3,q4,q5⟩,st4⟩ := q
  simp only at *
  have z0 : w4.cell? ⟨W.heap.size + 1,0,none⟩ = some (.int .i64 0) := G1.out.cells.1 0 (by omega)
  have z1 : w4.cell? ⟨W.heap.size + 1,1,none⟩ = some (.int .i64 0) := G1.out.cells.1 1 (by omega)
  have z2 : w4.cell? ⟨W.heap.size + 1,2,none⟩ = some (.int .i64 0) := G1.out.cells.1 2 (by omega)
  have z3 : w4.cell? ⟨W.heap.size + 1,3,none⟩ = some (.int .i64 0) := G1.out.cells.1 3 (by omega)
  have z4 : w4.cell? ⟨W.heap.size + 1,4,none⟩ = some (.slice none 0 0) := G1.out.cells.1 4 (by omega)
  have z5 : w4.cell? ⟨W.heap.size + 1,5,none⟩ = some (.slice none 0 0) := G1.out.cells.1 5 (by omega)
  have zf : ∀ i,w4.frozen? ⟨W.heap.size + 1,i,none⟩ = false := G1.out.cells.2
  go_wp2_with fail
  have HCE : Hid (CellsAt (putTo w4 (W.heap.size + 1) (cellsO ⟨q0,q1,q2,q3,q4,q5⟩ NA' nn nc BA bn bc) 6) (W.heap.size + 1) 6 (cellsO ⟨q0,q1,q2,q3,q4,q5⟩ NA' nn nc BA bn bc)) := putTo_all G1.out.cells
  have HRE := Lib.hid (H4.out.putTo (X := W.heap.size + 1) (f := cellsO ⟨q0,q1,q2,q3,q4,q5⟩ NA' nn nc BA bn bc) G1.out.free (by omega) 6)
  have HBE := Lib.hid (HB4.out.putTo (X := W.heap.size + 1) (f := cellsO ⟨q0,q1,q2,q3,q4,q5⟩ NA' nn nc BA bn bc) (by omega) G1.out.free.1 6)
  have HRO : Hid (RowsAt W.heap.size (putTo w4 (W.heap.size + 1) (cellsO ⟨q0,q1,q2,q3,q4,q5⟩ NA' nn nc BA bn bc) 6) ⟨q0,q1,q2,q3,q4,q5⟩ NA' nn nc BA bn bc) := (HRW.out.putTo hlt3 6).below (Below.refl _ _) (by omega)
  rw [HE2.out]
  exact ask_ret HCE.out HRO.out HRE.out HOK4.out HBE.out rfl
 ·subst hk1
  have hkd : ((kd : Int) != 1) = true := by rw [bne_iff_ne];omega
  have HE2 : Hid (r = (failsR 204,st2)) := HE.out.trans (askOR_3n _ _ _ _ _ _ hkd')
  have HG2 := Lib.hid (HG.out rfl)
  go_enter Tryz.func24,Tryz.ntmps24
  go_wp2_with fail
  rw [HW0.out]
  refine hHSP.out.mono ?_
  rintro e w1 ⟨v,rfl,⟨NA,cn,rfl,hcn,hcm,hrn⟩,hb1,hfr⟩
  have hs1 := hb1.size
  have D0 := Lib.hid (C0.out.below (by omega) hb1)
  have D1 := Lib.hid (C1.out.below (by omega) hb1)
  have H1 := Lib.hid (H0.out.below hb1)
  have HB1 := Lib.hid (HB0.out.trans ((RB.of_below hb1 (by omega)).mono (by omega)))
  have HWK1 := Lib.hid (HWK.out NA cn w1 hcn hrn (fun _ b off e => H0.out.rd.free_new hb1 (hfr _ _ _ rfl _ e)) H1.out)
  clear hrn hfr hb1 hcn hcm
  go_wp2_with fail
  refine HWK1.out.mono ?_
  rintro e w2 ⟨he,h2,hb2⟩
  rw [HEV.out] at he
  subst he
  have hs2 := hb2.size
  have E0 := Lib.hid (D0.out.rb hb2)
  have E1 := Lib.hid (D1.out.rb hb2)
  have H2 := Lib.hid h2
  have HB2 := Lib.hid (HB1.out.trans (hb2.mono (by omega)))
  clear hb2 h2
  obtain ⟨w3,hw3⟩ : ∃ w3,w2.alloc (.cells #[.int .i64 kd,.int .i64 lk,.int .i64 tp] 46) = w3 := ⟨_,rfl⟩
  have hb3 : Below w2.heap.size w2 w3 := by rw [<- hw3];exact (Below.refl _ _).alloc (Nat.le_refl _) _
  have hs3 : w3.heap.size = w2.heap.size + 1 := by rw [<- hw3];simp
  have hc3 : CellsAt w3 w2.heap.size 3 (ndO kd lk tp) := by
   rw [<- hw3]
   exact cellsAt_new _ _ _ _ _ fun i hi => match i,hi with | 0,_ => rfl | 1,_ => rfl | 2,_ => rfl
  have i0 : w3.cell? ⟨w2.heap.size,0,none⟩ = some (.int .i64 kd) := hc3.1 0 (by omega)
  have i1 : w3.cell? ⟨w2.heap.size,1,none⟩ = some (.int .i64 lk) := hc3.1 1 (by omega)
  have i2 : w3.cell? ⟨w2.heap.size,2,none⟩ = some (.int .i64 tp) := hc3.1 2 (by omega)
  have F0 := Lib.hid (E0.out.below (by omega) hb3)
  have F1 := Lib.hid (E1.out.below (by omega) hb3)
  have H3 := Lib.hid (H2.out.below hb3)
  have HB3 := Lib.hid (HB2.out.trans ((RB.of_below hb3 (by omega)).mono (by omega)))
  have o0 : w3.cell? ⟨W.heap.size,0,none⟩ = some (.int .i64 3) := F0.out.cells.1 0 (by omega)
  have o3 : w3.cell? ⟨W.heap.size,3,none⟩ = some (.int .i64 a) := F0.out.cells.1 3 (by omega)
  have o4 : w3.cell? ⟨W.heap.size,4,none⟩ = some (.int .i64 n) := F0.out.cells.1 4 (by omega)
  clear hb3 hc3
  go_wp2_with fail
  refine (HFL.out _ _).mono ?_
  rintro e w4 ⟨rfl,hb4⟩
  have G1 := Lib.hid (F1.out.below (by omega) hb4)
  have H4 := Lib.hid (H3.out.below hb4)
  have HB4 := Lib.hid (HB3.out.trans ((RB.of_below hb4 (by omega)).mono (by omega)))
  clear hb4 hw3
  have z0 : w4.cell? ⟨W.heap.size + 1,0,none⟩ = some (.int .i64 0) := G1.out.cells.1 0 (by omega)
  have z1 : w4.cell? ⟨W.heap.size + 1,1,none⟩ = some (.int .i64 0) := G1.out.cells.1 1 (by omega)
  have z2 : w4.cell? ⟨W.heap.size + 1,2,none⟩ = some (.int .i64 0) := G1.out.cells.1 2 (by omega)
  have z3 : w4.cell? ⟨W.heap.size + 1,3,none⟩ = some (.int .i64 0) := G1.out.cells.1 3 (by omega)
  have z4 : w4.cell? ⟨W.heap.size + 1,4,none⟩ = some (.slice none 0 0) := G1.out.cells.1 4 (by omega)
  have z5 : w4.cell? ⟨W.heap.size + 1,5,none⟩ = some (.slice none 0 0) := G1.out.cells.1 5 (by omega)
  have zf : ∀ i,w4.frozen? ⟨W.heap.size + 1,i,none⟩ = false := G1.out.cells.2
  go_wp2_with fail
  have HCE : Hid (CellsAt (putTo w4 (W.heap.size + 1) (cellsO (failsR 204) none 0 0 none 0 0) 6) (W.heap.size + 1) 6 (cellsO (failsR 204) none 0 0 none 0 0)) := putTo_all G1.out.cells
  have HRE := Lib.hid (H4.out.putTo (X := W.heap.size + 1) (f := cellsO (failsR 204) none 0 0 none 0 0) G1.out.free (by omega) 6)
  have HBE := Lib.hid (HB4.out.putTo (X := W.heap.size + 1) (f := cellsO (failsR 204) none 0 0 none 0 0) (by omega) G1.out.free.1 6)
  rw [HE2.out]
  exact ask_ret HCE.out (rowsAt_nil _ _ rfl rfl) HRE.out HOK2.out HBE.out rfl
 ·subst hk1
  obtain ⟨ha0,hn0⟩ := HA.out rfl
  obtain ⟨a',rfl⟩ : ∃ a' : Nat,a = (a' : Int) := ⟨a.toNat,by omega⟩
  obtain ⟨n',rfl⟩ : ∃ n' : Nat,n = (n' : Int) := ⟨n.toNat,by omega⟩
  obtain rfl : kd = 1 := hkd'
  have HEV2 : Hid (encWV (ln,(1,lk,tp),0) = .tuple #[.int .i64 ln,.agg #[.int .i64 1,.int .i64 lk,.int .i64 tp],.int .i64 0]) := rfl
  have HE2 : Hid (r = readRR fed tp a' n' st2) := HE.out.trans (askOR_3 _ _ _ _ _ _ rfl)
  have HG2 := Lib.hid (HG.out rfl)
  go_enter Tryz.func24,Tryz.ntmps24
  go_wp2_with fail
  rw [HW0.out]
  refine hHSP.out.mono ?_
  rintro e w1 ⟨v,rfl,⟨NA,cn,rfl,hcn,hcm,hrn⟩,hb1,hfr⟩
  have hs1 := hb1.size
  have D0 := Lib.hid (C0.out.below (by omega) hb1)
  have D1 := Lib.hid (C1.out.below (by omega) hb1)
  have H1 := Lib.hid (H0.out.below hb1)
  have HB1 := Lib.hid (HB0.out.trans ((RB.of_below hb1 (by omega)).mono (by omega)))
  have HWK1 := Lib.hid (HWK.out NA cn w1 hcn hrn (fun _ b off e => H0.out.rd.free_new hb1 (hfr _ _ _ rfl _ e)) H1.out)
  clear hrn hfr hb1 hcn hcm
  go_wp2_with fail
  refine HWK1.out.mono ?_
  rintro e w2 ⟨he,h2,hb2⟩
  rw [HEV2.out] at he
  subst he
  have hs2 := hb2.size
  have E0 := Lib.hid (D0.out.rb hb2)
  have E1 := Lib.hid (D1.out.rb hb2)
  have H2 := Lib.hid h2
  have HB2 := Lib.hid (HB1.out.trans (hb2.mono (by omega)))
  clear hb2 h2
  obtain ⟨w3,hw3⟩ : ∃ w3,w2.alloc (.cells #[.int .i64 1,.int .i64 lk,.int .i64 tp] 46) = w3 := ⟨_,rfl⟩
  have hb3 : Below w2.heap.size w2 w3 := by rw [<- hw3];exact (Below.refl _ _).alloc (Nat.le_refl _) _
  have hs3 : w3.heap.size = w2.heap.size + 1 := by rw [<- hw3];simp
  have hc3 : CellsAt w3 w2.heap.size 3 (ndO 1 lk tp) := by
   rw [<- hw3]
   exact cellsAt_new _ _ _ _ _ fun i hi => match i,hi with | 0,_ => rfl | 1,_ => rfl | 2,_ => rfl
  have i0 : w3.cell? ⟨w2.heap.size,0,none⟩ = some (.int .i64 1) := hc3.1 0 (by omega)
  have i1 : w3.cell? ⟨w2.heap.size,1,none⟩ = some (.int .i64 lk) := hc3.1 1 (by omega)
  have i2 : w3.cell? ⟨w2.heap.size,2,none⟩ = some (.int .i64 tp) := hc3.1 2 (by omega)
  have F0 := Lib.hid (E0.out.below (by omega) hb3)
  have F1 := Lib.hid (E1.out.below (by omega) hb3)
  have H3 := Lib.hid (H2.out.below hb3)
  have HB3 := Lib.hid (HB2.out.trans ((RB.of_below hb3 (by omega)).mono (by omega)))
  have o0 : w3.cell? ⟨W.heap.size,0,none⟩ = some (.int .i64 3) := F0.out.cells.1 0 (by omega)
  have o3 : w3.cell? ⟨W.heap.size,3,none⟩ = some (.int .i64 a') := F0.out.cells.1 3 (by omega)
  have o4 : w3.cell? ⟨W.heap.size,4,none⟩ = some (.int .i64 n') := F0.out.cells.1 4 (by omega)
  clear hb3 hc3
  have HC := Lib.hid (HRE.out w3 a' n' (by omega) (by omega) HG2.out H3.out)
  go_wp2_with fail
  refine HC.out.mono ?_
  rintro e w4 ⟨⟨NA',nn,nc,BA,bn,bc,rfl,hrow⟩,h4,hok4,hb4⟩
  have G1 := Lib.hid (F1.out.rb hb4)
  have H4 := Lib.hid h4
  have HB4 := Lib.hid (HB3.out.trans (hb4.mono (by omega)))
  have HRW := Lib.hid hrow
  have HOK4 := Lib.hid hok4
  have hs4 := hb4.size
  have hlt3 : W.heap.size + 1 < w3.heap.size := by omega
  clear hb4 hw3 hrow hok4 h4 HC
  generalize readRR fed tp a' n' st2 = q at *
  obtain ⟨⟨q0,q1,q2,q3,q4,q5⟩,st4⟩ := q
  simp only at *
  have z0 : w4.cell? ⟨W.heap.size + 1,0,none⟩ = some (.int .i64 0) := G1.out.cells.1 0 (by omega)
  have z1 : w4.cell? ⟨W.heap.size + 1,1,none⟩ = some (.int .i64 0) := G1.out.cells.1 1 (by omega)
  have z2 : w4.cell? ⟨W.heap.size + 1,2,none⟩ = some (.int .i64 0) := G1.out.cells.1 2 (by omega)
  have z3 : w4.cell? ⟨W.heap.size + 1,3,none⟩ = some (.int .i64 0) := G1.out.cells.1 3 (by omega)
  have z4 : w4.cell? ⟨W.heap.size + 1,4,none⟩ = some (.slice none 0 0) := G1.out.cells.1 4 (by omega)
  have z5 : w4.cell? ⟨W.heap.size + 1,5,none⟩ = some (.slice none 0 0) := G1.out.cells.1 5 (by omega)
  have zf : ∀ i,w4.frozen? ⟨W.heap.size + 1,i,none⟩ = false := G1.out.cells.2
  go_wp2_with fail
  have HCE : Hid (CellsAt (putTo w4 (W.heap.size + 1) (cellsO ⟨q0,q1,q2,q3,q4,q5⟩ NA' nn nc BA bn bc) 6) (W.heap.size + 1) 6 (cellsO ⟨q0,q1,q2,q3,q4,q5⟩ NA' nn nc BA bn bc)) := putTo_all G1.out.cells
  have HRE := Lib.hid (H4.out.putTo (X := W.heap.size + 1) (f := cellsO ⟨q0,q1,q2,q3,q4,q5⟩ NA' nn nc BA bn bc) G1.out.free (by omega) 6)
  have HBE := Lib.hid (HB4.out.putTo (X := W.heap.size + 1) (f := cellsO ⟨q0,q1,q2,q3,q4,q5⟩ NA' nn nc BA bn bc) (by omega) G1.out.free.1 6)
  have HRO : Hid (RowsAt W.heap.size (putTo w4 (W.heap.size + 1) (cellsO ⟨q0,q1,q2,q3,q4,q5⟩ NA' nn nc BA bn bc) 6) ⟨q0,q1,q2,q3,q4,q5⟩ NA' nn nc BA bn bc) := (HRW.out.putTo hlt3 6).below (Below.refl _ _) (by omega)
  rw [HE2.out]
  exact ask_ret HCE.out HRO.out HRE.out HOK4.out HBE.out rfl
end
section
open Go.RowKit
attribute [local go_sem] Oper.semAt_some
theorem two11_any (k : Int) (W : World) : Calls Tryz.prog 39 #[.int .i64 k] W fun e W' => e = .returned (.bool (decide (k = 8 ∨ k = 9))) ∧ W' = W := by
 by_cases h1 : k = 8
 ·subst h1
  go_enter Tryz.func39,Tryz.ntmps39
  go_wp2
  go_ret
  exact ⟨rfl,rfl⟩
 ·by_cases h2 : k = 9
  ·subst h2
   go_enter Tryz.func39,Tryz.ntmps39
   go_wp2
   go_ret
   exact ⟨rfl,rfl⟩
  ·rw [decide_eq_false (show ¬ (k = 8 ∨ k = 9) by omega)]
   have h3 : (k == 8) = false := beq_eq_false_iff_ne.2 h1
   have h4 : (k == 9) = false := beq_eq_false_iff_ne.2 h2
   clear h1 h2
   go_enter Tryz.func39,Tryz.ntmps39
   go_wp2
   go_ret
   exact ⟨rfl,rfl⟩
set_option maxRecDepth 200000 in
set_option maxHeartbeats 8000000 in
theorem check11_any (k : Int) (p d : ByteArray) (a n : Int) (A : Option Addr) (m c : Nat) (W : World) (hp : p.size < 4294967281) (hd : d.size < 4294967281) :
  Calls Tryz.prog 23 #[opV k p d a n A m c] W fun e W' => e = .returned (.int .i64 (checkN k (bytesOf p) (bytesOf d) a n m)) ∧ Below W.heap.size W W' := by
 obtain ⟨W0,hW0⟩ : ∃ W0,W.alloc (.cells #[.int .i64 k,.string p,.string d,.int .i64 a,.int .i64 n,.slice A m c] 28) = W0 := ⟨_,rfl⟩
 have hb0 : Below W.heap.size W W0 := by rw [<- hW0];exact (Below.refl _ _).alloc (Nat.le_refl _) _
 have hs0 : W0.heap.size = W.heap.size + 1 := by rw [<- hW0];simp
 have hOP : CellsAt W0 W.heap.size 6 (cellsOp k p d a n A m c) := by
  rw [<- hW0]
  exact cellsAt_new W _ _ 6 _ fun i hi => match i,hi with | 0,_ => rfl | 1,_ => rfl | 2,_ => rfl | 3,_ => rfl | 4,_ => rfl | 5,_ => rfl
 have HOP := Lib.hid hOP
 have HW0 := Lib.hid hW0
 have HB0 := Lib.hid hb0
 have HSP := refsplit_any p W0 hp
 have HSD := fun w => refsplit_any d w hd
 unfold SplitPPost at HSP HSD
 have HCN : checkN k (bytesOf p) (bytesOf d) a n m = if k < 1 ∨ 11 < k then 2
  else if (readP (bytesOf p)).1 ≠ 0 then ((readP (bytesOf p)).1 : Int)
  else if (k = 8 ∨ k = 9) ∧ (readP (bytesOf d)).1 ≠ 0 then ((readP (bytesOf d)).1 : Int)
  else if k = 3 then (if a < 0 ∨ n < 0 then 2 else 0)
  else if k = 10 then (if a < 0 then 2 else if 448 < a ∨ 448 < a + m then 190 else 0)
  else if k = 11 then (if n < 0 then 2 else if 448 < n then 190 else 0)
  else 0 := rfl
 generalize checkN k (bytesOf p) (bytesOf d) a n m = z at *
 generalize readP (bytesOf p) = rp at *
 generalize readP (bytesOf d) = rd at *
 obtain ⟨z1,n1⟩ := rp
 obtain ⟨z2,n2⟩ := rd
 simp only at *
 have hSP := Lib.hid HSP
 have hSD := Lib.hid HSD
 have HTW := Lib.hid two11_any
 clear HSP HSD hb0 hOP hW0 hp hd
 unfold opV
 by_cases h1 : k < 1 ∨ 11 < k
 ·obtain rfl : z = 2 := by rw [HCN,if_pos h1]
  clear HCN
  rcases h1 with h1 | h1
  ·have hk1 : decide (k < 1) = true := decide_eq_true h1
   clear h1
   go_enter Tryz.func23,Tryz.ntmps23
   go_wp2_with fail
   go_ret
   rw [HW0.out]
   exact ⟨rfl,HB0.out⟩
  ·have hk1 : decide (k < 1) = false := decide_eq_false (by omega)
   have hk2 : decide (11 < k) = true := decide_eq_true h1
   clear h1
   go_enter Tryz.func23,Tryz.ntmps23
   go_wp2_with fail
   go_ret
   rw [HW0.out]
   exact ⟨rfl,HB0.out⟩
 ·rw [if_neg h1] at HCN
  by_cases h2 : z1 ≠ 0
  ·rw [if_pos h2] at HCN
   have hk1 : decide (k < 1) = false := decide_eq_false (by omega)
   have hk2 : decide (11 < k) = false := decide_eq_false (by omega)
   have hz1 : ((z1 : Int) != 0) = true := by rw [bne_iff_ne];omega
   have HC := Lib.hid HCN
   clear HCN h1 h2
   go_enter Tryz.func23,Tryz.ntmps23
   go_wp2_with (first
    | (go_at_call 38;rw [HW0.out];refine hSP.out.mono ?_;rintro e w1 ⟨v,rfl,hp1,hb1,hf1⟩))
   go_ret
   rw [HC.out]
   exact ⟨rfl,HB0.out.trans (hb1.mono (by omega))⟩
  ·obtain rfl : z1 = 0 := by omega
   rw [if_neg h2] at HCN
   clear h2
   have HCA := Lib.hid HCN
   have hr : 1 <= k ∧ k <= 11 := by omega
   clear HCN h1
   by_cases h8 : (k = 8 ∨ k = 9) ∧ z2 ≠ 0
   ·have HC : Hid (z = (z2 : Int)) := HCA.out.trans (if_pos h8)
    have hz2 : ((z2 : Int) != 0) = true := by rw [bne_iff_ne];omega
    obtain ⟨h8,h9⟩ := h8
    clear HCA h9 hr
    rcases h8 with rfl | rfl
    all_goals
     go_enter Tryz.func23,Tryz.ntmps23
     go_wp2_with (first
      | (go_at_call 38;rw [HW0.out];refine hSP.out.mono ?_;rintro e w1 ⟨v,rfl,hp1,hb1,hf1⟩;have o2 : w1.cell? ⟨W.heap.size,2,none⟩ = some (.string d) := (hb1.cell (p := ⟨W.heap.size,2,none⟩) (by show W.heap.size < W0.heap.size;omega)).trans (HOP.out.1 2 (by omega));have HB1 := Lib.hid (HB0.out.trans (hb1.mono (by omega)));clear hb1)
      | (go_at_call 38;refine (hSD.out w1).mono ?_;rintro e w2 ⟨v2,rfl,hp2,hb2,hf2⟩;have HB2 := Lib.hid (HB1.out.trans (hb2.mono HB1.out.size));clear hb2)
      | (go_at_call 39;refine (HTW.out _ _).mono ?_;rintro e w3 ⟨rfl,rfl⟩))
     go_ret
     rw [HC.out]
     exact ⟨rfl,HB2.out⟩
   ·have HCB := HCA.out.trans (if_neg h8)
    clear HCA
    by_cases k3 : k = 3
    ·clear hr
     subst k3
     have HCD := HCB.trans (if_pos rfl)
     clear HCB h8
     by_cases ha : a < 0
     ·have HC : Hid (z = 2) := HCD.trans (if_pos (.inl ha))
      have ha1 : decide (a < 0) = true := decide_eq_true ha
      clear HCD ha
      go_enter Tryz.func23,Tryz.ntmps23
      go_wp2_with (first
       | (go_at_call 38;rw [HW0.out];refine hSP.out.mono ?_;rintro e w1 ⟨v,rfl,hp1,hb1,hf1⟩;have o2 : w1.cell? ⟨W.heap.size,2,none⟩ = some (.string d) := (hb1.cell (p := ⟨W.heap.size,2,none⟩) (by show W.heap.size < W0.heap.size;omega)).trans (HOP.out.1 2 (by omega));have HO1 := Lib.hid (HOP.out.below hb1 (by omega));have HS1 := Lib.hid hb1.size;have HB1 := Lib.hid (HB0.out.trans (hb1.mono (by omega)));clear hb1)
       | (go_at_call 38;refine (hSD.out w1).mono ?_;rintro e w2 ⟨v2,rfl,hp2,hb2,hf2⟩;have HB2 := Lib.hid (HB1.out.trans (hb2.mono HB1.out.size));have HO2 := Lib.hid (HO1.out.below hb2 (by have := HS1.out;omega));have o3 : w2.cell? ⟨W.heap.size,3,none⟩ = some (.int .i64 a) := HO2.out.1 3 (by omega);have o4 : w2.cell? ⟨W.heap.size,4,none⟩ = some (.int .i64 n) := HO2.out.1 4 (by omega);have o5 : w2.cell? ⟨W.heap.size,5,none⟩ = some (.slice A m c) := HO2.out.1 5 (by omega);clear hb2 o2)
       | (go_at_call 39;refine (HTW.out _ _).mono ?_;rintro e w3 ⟨rfl,rfl⟩))
      go_ret
      rw [HC.out]
      exact ⟨rfl,HB2.out⟩
     ·have ha1 : decide (a < 0) = false := decide_eq_false ha
      by_cases hn : n < 0
      ·have HC : Hid (z = 2) := HCD.trans (if_pos (.inr hn))
       have hn1 : decide (n < 0) = true := decide_eq_true hn
       clear HCD ha hn
       go_enter Tryz.func23,Tryz.ntmps23
       go_wp2_with (first
        | (go_at_call 38;rw [HW0.out];refine hSP.out.mono ?_;rintro e w1 ⟨v,rfl,hp1,hb1,hf1⟩;have o2 : w1.cell? ⟨W.heap.size,2,none⟩ = some (.string d) := (hb1.cell (p := ⟨W.heap.size,2,none⟩) (by show W.heap.size < W0.heap.size;omega)).trans (HOP.out.1 2 (by omega));have HO1 := Lib.hid (HOP.out.below hb1 (by omega));have HS1 := Lib.hid hb1.size;have HB1 := Lib.hid (HB0.out.trans (hb1.mono (by omega)));clear hb1)
        | (go_at_call 38;refine (hSD.out w1).mono ?_;rintro e w2 ⟨v2,rfl,hp2,hb2,hf2⟩;have HB2 := Lib.hid (HB1.out.trans (hb2.mono HB1.out.size));have HO2 := Lib.hid (HO1.out.below hb2 (by have := HS1.out;omega));have o3 : w2.cell? ⟨W.heap.size,3,none⟩ = some (.int .i64 a) := HO2.out.1 3 (by omega);have o4 : w2.cell? ⟨W.heap.size,4,none⟩ = some (.int .i64 n) := HO2.out.1 4 (by omega);have o5 : w2.cell? ⟨W.heap.size,5,none⟩ = some (.slice A m c) := HO2.out.1 5 (by omega);clear hb2 o2)
        | (go_at_call 39;refine (HTW.out _ _).mono ?_;rintro e w3 ⟨rfl,rfl⟩))
       go_ret
       rw [HC.out]
       exact ⟨rfl,HB2.out⟩
      ·have HC : Hid (z = 0) := HCD.trans (if_neg (by omega))
       have hn1 : decide (n < 0) = false := decide_eq_false hn
       clear HCD ha hn
       go_enter Tryz.func23,Tryz.ntmps23
       go_wp2_with (first
        | (go_at_call 38;rw [HW0.out];refine hSP.out.mono ?_;rintro e w1 ⟨v,rfl,hp1,hb1,hf1⟩;have o2 : w1.cell? ⟨W.heap.size,2,none⟩ = some (.string d) := (hb1.cell (p := ⟨W.heap.size,2,none⟩) (by show W.heap.size < W0.heap.size;omega)).trans (HOP.out.1 2 (by omega));have HO1 := Lib.hid (HOP.out.below hb1 (by omega));have HS1 := Lib.hid hb1.size;have HB1 := Lib.hid (HB0.out.trans (hb1.mono (by omega)));clear hb1)
        | (go_at_call 38;refine (hSD.out w1).mono ?_;rintro e w2 ⟨v2,rfl,hp2,hb2,hf2⟩;have HB2 := Lib.hid (HB1.out.trans (hb2.mono HB1.out.size));have HO2 := Lib.hid (HO1.out.below hb2 (by have := HS1.out;omega));have o3 : w2.cell? ⟨W.heap.size,3,none⟩ = some (.int .i64 a) := HO2.out.1 3 (by omega);have o4 : w2.cell? ⟨W.heap.size,4,none⟩ = some (.int .i64 n) := HO2.out.1 4 (by omega);have o5 : w2.cell? ⟨W.heap.size,5,none⟩ = some (.slice A m c) := HO2.out.1 5 (by omega);clear hb2 o2)
        | (go_at_call 39;refine (HTW.out _ _).mono ?_;rintro e w3 ⟨rfl,rfl⟩))
       go_ret
       rw [HC.out]
       exact ⟨rfl,HB2.out⟩
    ·have HCC := HCB.trans (if_neg k3)
     clear HCB
     by_cases k10 : k = 10
     ·clear hr
      subst k10
      have HCD := HCC.trans (if_pos rfl)
      clear HCC h8 k3
      by_cases ha : a < 0
      ·have HC : Hid (z = 2) := HCD.trans (if_pos ha)
       have ha1 : decide (a < 0) = true := decide_eq_true ha
       clear HCD ha
       go_enter Tryz.func23,Tryz.ntmps23
       go_wp2_with (first
        | (go_at_call 38;rw [HW0.out];refine hSP.out.mono ?_;rintro e w1 ⟨v,rfl,hp1,hb1,hf1⟩;have o2 : w1.cell? ⟨W.heap.size,2,none⟩ = some (.string d) := (hb1.cell (p := ⟨W.heap.size,2,none⟩) (by show W.heap.size < W0.heap.size;omega)).trans (HOP.out.1 2 (by omega));have HO1 := Lib.hid (HOP.out.below hb1 (by omega));have HS1 := Lib.hid hb1.size;have HB1 := Lib.hid (HB0.out.trans (hb1.mono (by omega)));clear hb1)
        | (go_at_call 38;refine (hSD.out w1).mono ?_;rintro e w2 ⟨v2,rfl,hp2,hb2,hf2⟩;have HB2 := Lib.hid (HB1.out.trans (hb2.mono HB1.out.size));have HO2 := Lib.hid (HO1.out.below hb2 (by have := HS1.out;omega));have o3 : w2.cell? ⟨W.heap.size,3,none⟩ = some (.int .i64 a) := HO2.out.1 3 (by omega);have o4 : w2.cell? ⟨W.heap.size,4,none⟩ = some (.int .i64 n) := HO2.out.1 4 (by omega);have o5 : w2.cell? ⟨W.heap.size,5,none⟩ = some (.slice A m c) := HO2.out.1 5 (by omega);clear hb2 o2)
        | (go_at_call 39;refine (HTW.out _ _).mono ?_;rintro e w3 ⟨rfl,rfl⟩))
       go_ret
       rw [HC.out]
       exact ⟨rfl,HB2.out⟩
      ·have ha1 : decide (a < 0) = false := decide_eq_false ha
       have HCE := HCD.trans (if_neg ha)
       clear HCD
       by_cases hb : 448 < a
       ·have HC : Hid (z = 190) := HCE.trans (if_pos (.inl hb))
        have hb1 : decide (448 < a) = true := decide_eq_true hb
        clear HCE ha hb
        go_enter Tryz.func23,Tryz.ntmps23
        go_wp2_with (first
         | (go_at_call 38;rw [HW0.out];refine hSP.out.mono ?_;rintro e w1 ⟨v,rfl,hp1,hbA,hf1⟩;have o2 : w1.cell? ⟨W.heap.size,2,none⟩ = some (.string d) := (hbA.cell (p := ⟨W.heap.size,2,none⟩) (by show W.heap.size < W0.heap.size;omega)).trans (HOP.out.1 2 (by omega));have HO1 := Lib.hid (HOP.out.below hbA (by omega));have HS1 := Lib.hid hbA.size;have HB1 := Lib.hid (HB0.out.trans (hbA.mono (by omega)));clear hbA)
         | (go_at_call 38;refine (hSD.out w1).mono ?_;rintro e w2 ⟨v2,rfl,hp2,hb2,hf2⟩;have HB2 := Lib.hid (HB1.out.trans (hb2.mono HB1.out.size));have HO2 := Lib.hid (HO1.out.below hb2 (by have := HS1.out;omega));have o3 : w2.cell? ⟨W.heap.size,3,none⟩ = some (.int .i64 a) := HO2.out.1 3 (by omega);have o4 : w2.cell? ⟨W.heap.size,4,none⟩ = some (.int .i64 n) := HO2.out.1 4 (by omega);have o5 : w2.cell? ⟨W.heap.size,5,none⟩ = some (.slice A m c) := HO2.out.1 5 (by omega);clear hb2 o2)
         | (go_at_call 39;refine (HTW.out _ _).mono ?_;rintro e w3 ⟨rfl,rfl⟩))
        go_ret
        rw [HC.out]
        exact ⟨rfl,HB2.out⟩
       ·have hbz : decide (448 < a) = false := decide_eq_false hb
        have hw : IntKind.i64.wrap (448 - a) = 448 - a := IntWalk.i64_in _ (by omega)
        by_cases hm : 448 - a < (m : Int)
        ·have HC : Hid (z = 190) := HCE.trans (if_pos (.inr (by omega)))
         have hmz : decide (448 - a < (m : Int)) = true := decide_eq_true hm
         clear HCE ha hb hm
         go_enter Tryz.func23,Tryz.ntmps23
         go_wp2_with (first
          | (go_at_call 38;rw [HW0.out];refine hSP.out.mono ?_;rintro e w1 ⟨v,rfl,hp1,hb1,hf1⟩;have o2 : w1.cell? ⟨W.heap.size,2,none⟩ = some (.string d) := (hb1.cell (p := ⟨W.heap.size,2,none⟩) (by show W.heap.size < W0.heap.size;omega)).trans (HOP.out.1 2 (by omega));have HO1 := Lib.hid (HOP.out.below hb1 (by omega));have HS1 := Lib.hid hb1.size;have HB1 := Lib.hid (HB0.out.trans (hb1.mono (by omega)));clear hb1)
          | (go_at_call 38;refine (hSD.out w1).mono ?_;rintro e w2 ⟨v2,rfl,hp2,hb2,hf2⟩;have HB2 := Lib.hid (HB1.out.trans (hb2.mono HB1.out.size));have HO2 := Lib.hid (HO1.out.below hb2 (by have := HS1.out;omega));have o3 : w2.cell? ⟨W.heap.size,3,none⟩ = some (.int .i64 a) := HO2.out.1 3 (by omega);have o4 : w2.cell? ⟨W.heap.size,4,none⟩ = some (.int .i64 n) := HO2.out.1 4 (by omega);have o5 : w2.cell? ⟨W.heap.size,5,none⟩ = some (.slice A m c) := HO2.out.1 5 (by omega);clear hb2 o2)
          | (go_at_call 39;refine (HTW.out _ _).mono ?_;rintro e w3 ⟨rfl,rfl⟩))
         go_ret
         rw [HC.out]
         exact ⟨rfl,HB2.out⟩
        ·have HC : Hid (z = 0) := HCE.trans (if_neg (by omega))
         have hmz : decide (448 - a < (m : Int)) = false := decide_eq_false hm
         clear HCE ha hb hm
         go_enter Tryz.func23,Tryz.ntmps23
         go_wp2_with (first
          | (go_at_call 38;rw [HW0.out];refine hSP.out.mono ?_;rintro e w1 ⟨v,rfl,hp1,hb1,hf1⟩;have o2 : w1.cell? ⟨W.heap.size,2,none⟩ = some (.string d) := (hb1.cell (p := ⟨W.heap.size,2,none⟩) (by show W.heap.size < W0.heap.size;omega)).trans (HOP.out.1 2 (by omega));have HO1 := Lib.hid (HOP.out.below hb1 (by omega));have HS1 := Lib.hid hb1.size;have HB1 := Lib.hid (HB0.out.trans (hb1.mono (by omega)));clear hb1)
          | (go_at_call 38;refine (hSD.out w1).mono ?_;rintro e w2 ⟨v2,rfl,hp2,hb2,hf2⟩;have HB2 := Lib.hid (HB1.out.trans (hb2.mono HB1.out.size));have HO2 := Lib.hid (HO1.out.below hb2 (by have := HS1.out;omega));have o3 : w2.cell? ⟨W.heap.size,3,none⟩ = some (.int .i64 a) := HO2.out.1 3 (by omega);have o4 : w2.cell? ⟨W.heap.size,4,none⟩ = some (.int .i64 n) := HO2.out.1 4 (by omega);have o5 : w2.cell? ⟨W.heap.size,5,none⟩ = some (.slice A m c) := HO2.out.1 5 (by omega);clear hb2 o2)
          | (go_at_call 39;refine (HTW.out _ _).mono ?_;rintro e w3 ⟨rfl,rfl⟩))
         go_ret
         rw [HC.out]
         exact ⟨rfl,HB2.out⟩
     ·have HCD := HCC.trans (if_neg k10)
      clear HCC
      by_cases k11 : k = 11
      ·clear hr
       subst k11
       have HCE := HCD.trans (if_pos rfl)
       clear HCD h8 k3 k10
       by_cases hn : n < 0
       ·have HC : Hid (z = 2) := HCE.trans (if_pos hn)
        have hn1 : decide (n < 0) = true := decide_eq_true hn
        clear HCE hn
        go_enter Tryz.func23,Tryz.ntmps23
        go_wp2_with (first
         | (go_at_call 38;rw [HW0.out];refine hSP.out.mono ?_;rintro e w1 ⟨v,rfl,hp1,hb1,hf1⟩;have o2 : w1.cell? ⟨W.heap.size,2,none⟩ = some (.string d) := (hb1.cell (p := ⟨W.heap.size,2,none⟩) (by show W.heap.size < W0.heap.size;omega)).trans (HOP.out.1 2 (by omega));have HO1 := Lib.hid (HOP.out.below hb1 (by omega));have HS1 := Lib.hid hb1.size;have HB1 := Lib.hid (HB0.out.trans (hb1.mono (by omega)));clear hb1)
         | (go_at_call 38;refine (hSD.out w1).mono ?_;rintro e w2 ⟨v2,rfl,hp2,hb2,hf2⟩;have HB2 := Lib.hid (HB1.out.trans (hb2.mono HB1.out.size));have HO2 := Lib.hid (HO1.out.below hb2 (by have := HS1.out;omega));have o3 : w2.cell? ⟨W.heap.size,3,none⟩ = some (.int .i64 a) := HO2.out.1 3 (by omega);have o4 : w2.cell? ⟨W.heap.size,4,none⟩ = some (.int .i64 n) := HO2.out.1 4 (by omega);have o5 : w2.cell? ⟨W.heap.size,5,none⟩ = some (.slice A m c) := HO2.out.1 5 (by omega);clear hb2 o2)
         | (go_at_call 39;refine (HTW.out _ _).mono ?_;rintro e w3 ⟨rfl,rfl⟩))
        go_ret
        rw [HC.out]
        exact ⟨rfl,HB2.out⟩
       ·have hn1 : decide (n < 0) = false := decide_eq_false hn
        have HCF := HCE.trans (if_neg hn)
        clear HCE
        by_cases hb : 448 < n
        ·have HC : Hid (z = 190) := HCF.trans (if_pos hb)
         have hbz : decide (448 < n) = true := decide_eq_true hb
         clear HCF hn hb
         go_enter Tryz.func23,Tryz.ntmps23
         go_wp2_with (first
          | (go_at_call 38;rw [HW0.out];refine hSP.out.mono ?_;rintro e w1 ⟨v,rfl,hp1,hb1,hf1⟩;have o2 : w1.cell? ⟨W.heap.size,2,none⟩ = some (.string d) := (hb1.cell (p := ⟨W.heap.size,2,none⟩) (by show W.heap.size < W0.heap.size;omega)).trans (HOP.out.1 2 (by omega));have HO1 := Lib.hid (HOP.out.below hb1 (by omega));have HS1 := Lib.hid hb1.size;have HB1 := Lib.hid (HB0.out.trans (hb1.mono (by omega)));clear hb1)
          | (go_at_call 38;refine (hSD.out w1).mono ?_;rintro e w2 ⟨v2,rfl,hp2,hb2,hf2⟩;have HB2 := Lib.hid (HB1.out.trans (hb2.mono HB1.out.size));have HO2 := Lib.hid (HO1.out.below hb2 (by have := HS1.out;omega));have o3 : w2.cell? ⟨W.heap.size,3,none⟩ = some (.int .i64 a) := HO2.out.1 3 (by omega);have o4 : w2.cell? ⟨W.heap.size,4,none⟩ = some (.int .i64 n) := HO2.out.1 4 (by omega);have o5 : w2.cell? ⟨W.heap.size,5,none⟩ = some (.slice A m c) := HO2.out.1 5 (by omega);clear hb2 o2)
          | (go_at_call 39;refine (HTW.out _ _).mono ?_;rintro e w3 ⟨rfl,rfl⟩))
         go_ret
         rw [HC.out]
         exact ⟨rfl,HB2.out⟩
        ·have HC : Hid (z = 0) := HCF.trans (if_neg hb)
         have hbz : decide (448 < n) = false := decide_eq_false hb
         clear HCF hn hb
         go_enter Tryz.func23,Tryz.ntmps23
         go_wp2_with (first
          | (go_at_call 38;rw [HW0.out];refine hSP.out.mono ?_;rintro e w1 ⟨v,rfl,hp1,hb1,hf1⟩;have o2 : w1.cell? ⟨W.heap.size,2,none⟩ = some (.string d) := (hb1.cell (p := ⟨W.heap.size,2,none⟩) (by show W.heap.size < W0.heap.size;omega)).trans (HOP.out.1 2 (by omega));have HO1 := Lib.hid (HOP.out.below hb1 (by omega));have HS1 := Lib.hid hb1.size;have HB1 := Lib.hid (HB0.out.trans (hb1.mono (by omega)));clear hb1)
          | (go_at_call 38;refine (hSD.out w1).mono ?_;rintro e w2 ⟨v2,rfl,hp2,hb2,hf2⟩;have HB2 := Lib.hid (HB1.out.trans (hb2.mono HB1.out.size));have HO2 := Lib.hid (HO1.out.below hb2 (by have := HS1.out;omega));have o3 : w2.cell? ⟨W.heap.size,3,none⟩ = some (.int .i64 a) := HO2.out.1 3 (by omega);have o4 : w2.cell? ⟨W.heap.size,4,none⟩ = some (.int .i64 n) := HO2.out.1 4 (by omega);have o5 : w2.cell? ⟨W.heap.size,5,none⟩ = some (.slice A m c) := HO2.out.1 5 (by omega);clear hb2 o2)
          | (go_at_call 39;refine (HTW.out _ _).mono ?_;rintro e w3 ⟨rfl,rfl⟩))
         go_ret
         rw [HC.out]
         exact ⟨rfl,HB2.out⟩
      ·have HC : Hid (z = 0) := HCD.trans (if_neg k11)
       clear HCD
       have hkl : decide (k < 1) = false := decide_eq_false (by omega)
       have hkg : decide (11 < k) = false := decide_eq_false (by omega)
       have e3 : (k == 3) = false := beq_eq_false_iff_ne.2 k3
       have e10 : (k == 10) = false := beq_eq_false_iff_ne.2 k10
       have e11 : (k == 11) = false := beq_eq_false_iff_ne.2 k11
       have hz2 : decide (k = 8 ∨ k = 9) = true ∧ ((z2 : Int) != 0) = false ∨ decide (k = 8 ∨ k = 9) = false := by
        by_cases h : k = 8 ∨ k = 9
        ·refine .inl ⟨decide_eq_true h,?_⟩
         rw [bne_eq_false_iff_eq]
         have : z2 = 0 := by
          by_cases hz : z2 = 0
          ·exact hz
          ·exact absurd ⟨h,hz⟩ h8
         omega
        ·exact .inr (decide_eq_false h)
       clear h8 k3 k10 k11
       have HTK := Lib.hid (HTW.out k)
       clear HTW hr
       generalize decide (k = 8 ∨ k = 9) = kb at *
       rcases hz2 with ⟨rfl,hz2⟩ | rfl
       all_goals
        go_enter Tryz.func23,Tryz.ntmps23
        go_wp2_with (first
         | (go_at_call 38;rw [HW0.out];refine hSP.out.mono ?_;rintro e w1 ⟨v,rfl,hp1,hb1,hf1⟩;have o2 : w1.cell? ⟨W.heap.size,2,none⟩ = some (.string d) := (hb1.cell (p := ⟨W.heap.size,2,none⟩) (by show W.heap.size < W0.heap.size;omega)).trans (HOP.out.1 2 (by omega));have HO1 := Lib.hid (HOP.out.below hb1 (by omega));have HS1 := Lib.hid hb1.size;have HB1 := Lib.hid (HB0.out.trans (hb1.mono (by omega)));clear hb1)
         | (go_at_call 38;refine (hSD.out w1).mono ?_;rintro e w2 ⟨v2,rfl,hp2,hb2,hf2⟩;have HB2 := Lib.hid (HB1.out.trans (hb2.mono HB1.out.size));have HO2 := Lib.hid (HO1.out.below hb2 (by have := HS1.out;omega));have o3 : w2.cell? ⟨W.heap.size,3,none⟩ = some (.int .i64 a) := HO2.out.1 3 (by omega);have o4 : w2.cell? ⟨W.heap.size,4,none⟩ = some (.int .i64 n) := HO2.out.1 4 (by omega);have o5 : w2.cell? ⟨W.heap.size,5,none⟩ = some (.slice A m c) := HO2.out.1 5 (by omega);clear hb2 o2)
         | (go_at_call 39;refine (HTK.out _).mono ?_;rintro e w3 ⟨rfl,rfl⟩))
        go_ret
        rw [HC.out]
        exact ⟨rfl,HB2.out⟩
end
section
open Go.RowKit Go.Maps
attribute [local go_sem] Oper.semAt_some
variable {FA : Option Addr} {nf cf : Nat} {fed : List Nat}
theorem run22_ret {W wE : World} {l : LookP} {z : Int} {NA BA : Option Addr} {nn nc bn bc : Nat} {tmps : Array Value} (h : CellsAt wE (W.heap.size + 1) 9 (cellsLk l NA nn nc BA bn bc)) (hb : Below W.heap.size W wE) (hrow : RowsAt W.heap.size wE l.res NA nn nc BA bn bc)
  (h4 : tmps[4]? = some (.pointer (some ⟨W.heap.size + 1,0,none⟩))) (h5 : tmps[5]? = some (.int .i64 z)) :
  bodyPost Tryz.prog Tryz.f9 (LookR (l,z) W) .ret ⟨tmps,[]⟩ wE := by
 have g0 := h.1 0 (by omega)
 have g1 := h.1 1 (by omega)
 have g2 := h.1 2 (by omega)
 have g3 := h.1 3 (by omega)
 have g4 := h.1 4 (by omega)
 have g5 := h.1 5 (by omega)
 have g6 := h.1 6 (by omega)
 have g7 := h.1 7 (by omega)
 have g8 := h.1 8 (by omega)
 simp only [cellsLk] at g0 g1 g2 g3 g4 g5 g6 g7 g8
 refine bodyPost_ret (v := .tuple #[lookV l NA nn nc BA bn bc,.int .i64 z]) ?_ rfl ⟨⟨NA,nn,nc,BA,bn,bc,rfl,hrow⟩,hb⟩
 simp [results,Tryz.results9,go_sem,h4,h5,g0,g1,g2,g3,g4,g5,g6,g7,g8,lookV]
set_option maxRecDepth 100000 in
set_option maxHeartbeats 4000000 in
theorem ref22_no (k : Int) (p d : ByteArray) (a n : Int) (A : Option Addr) (m c : Nat) (W : World) (hp : p.size < 4294967281) (hd : d.size < 4294967281)
  (z : Int) (hz : (refuseN k (bytesOf p) (bytesOf d) a n m ≠ 0 ∧ z = refuseN k (bytesOf p) (bytesOf d) a n m) ∨ (refuseN k (bytesOf p) (bytesOf d) a n m = 0 ∧ 20000 < nf ∧ z = 3)) :
  Calls Tryz.prog 9 #[opV k p d a n A m c,.slice FA nf cf] W (LookR (lookZero,z) W) := by
 obtain ⟨W0,hW0⟩ : ∃ W0,(W.alloc (.cells #[.int .i64 k,.string p,.string d,.int .i64 a,.int .i64 n,.slice A m c] 28)).alloc (.cells #[.bool false,.int .i64 0,.int .i64 0,.int .i64 0,.int .i64 0,.int .i64 0,.int .i64 0,.slice none 0 0,.slice none 0 0] 35) = W0 := ⟨_,rfl⟩
 have h0 := runBegun k p d a n A m c W W0 hW0
 have hck := check11_any k p d a n A m c W0 hp hd
 have H0 := Lib.hid h0
 have HW0 := Lib.hid hW0
 have hs0 := h0.size
 have hways : (k < 1 ∧ z = 2) ∨ (3 < k ∧ ¬ k < 1 ∧ z = 2) ∨ ((1 <= k ∧ k <= 3) ∧ checkN k (bytesOf p) (bytesOf d) a n m ≠ 0 ∧ z = checkN k (bytesOf p) (bytesOf d) a n m) ∨ ((1 <= k ∧ k <= 3) ∧ checkN k (bytesOf p) (bytesOf d) a n m = 0 ∧ 20000 < nf ∧ z = 3) := by
  unfold refuseN at hz
  by_cases h1 : k < 1 ∨ 3 < k
  ·rw [if_pos h1] at hz
   have hz2 : z = 2 := by
    rcases hz with h | h
    ·exact h.2
    ·cases h.1
   by_cases h2 : k < 1
   ·exact .inl ⟨h2,hz2⟩
   ·exact .inr (.inl ⟨by omega,h2,hz2⟩)
  ·rw [if_neg h1] at hz
   rcases hz with h | h
   ·exact .inr (.inr (.inl ⟨by omega,h.1,h.2⟩))
   ·exact .inr (.inr (.inr ⟨by omega,h.1,h.2.1,h.2.2⟩))
 generalize checkN k (bytesOf p) (bytesOf d) a n m = cz at *
 unfold opV at hck ⊢
 have HCK := Lib.hid hck
 clear hck h0 hW0 hz
 rcases hways with ⟨h1,rfl⟩ | ⟨h1,h2,rfl⟩ | ⟨h1,hcz,rfl⟩ | ⟨h1,rfl,hnf2,rfl⟩
 ·have hk1 : decide (k < 1) = true := decide_eq_true h1
  clear h1
  have HL2 := Lib.hid H0.out.look
  have HB2 := Lib.hid H0.out.below
  have hW0 := HW0.out
  have o0 : W0.cell? ⟨W.heap.size,0,none⟩ = some (.int .i64 k) := H0.out.op.1 0 (by omega)
  have l0 : W0.cell? ⟨W.heap.size + 1,0,none⟩ = some (.bool false) := HL2.out.1 0 (by omega)
  have l1 : W0.cell? ⟨W.heap.size + 1,1,none⟩ = some (.int .i64 0) := HL2.out.1 1 (by omega)
  have l2 : W0.cell? ⟨W.heap.size + 1,2,none⟩ = some (.int .i64 0) := HL2.out.1 2 (by omega)
  have l3 : W0.cell? ⟨W.heap.size + 1,3,none⟩ = some (.int .i64 0) := HL2.out.1 3 (by omega)
  have l4 : W0.cell? ⟨W.heap.size + 1,4,none⟩ = some (.int .i64 0) := HL2.out.1 4 (by omega)
  have l5 : W0.cell? ⟨W.heap.size + 1,5,none⟩ = some (.int .i64 0) := HL2.out.1 5 (by omega)
  have l6 : W0.cell? ⟨W.heap.size + 1,6,none⟩ = some (.int .i64 0) := HL2.out.1 6 (by omega)
  have l7 : W0.cell? ⟨W.heap.size + 1,7,none⟩ = some (.slice none 0 0) := HL2.out.1 7 (by omega)
  have l8 : W0.cell? ⟨W.heap.size + 1,8,none⟩ = some (.slice none 0 0) := HL2.out.1 8 (by omega)
  have hfr : ∀ i,W0.frozen? ⟨W.heap.size + 1,i,none⟩ = false := HL2.out.2
  go_enter Tryz.func9,Tryz.ntmps9
  go_wp2_with fail
  have HE : Hid (CellsAt (putTo W0 (W.heap.size + 1) (cellsLk lookZero none 0 0 none 0 0) 9) (W.heap.size + 1) 9 (cellsLk lookZero none 0 0 none 0 0)) := putTo_all HL2.out
  have HBE : Hid (Below W.heap.size W (putTo W0 (W.heap.size + 1) (cellsLk lookZero none 0 0 none 0 0) 9)) := below_putTo HB2.out (by omega) 9
  exact run22_ret HE.out HBE.out (rowsAt_nil _ _ rfl rfl) (by rfl) (by rfl)
 ·have hk1 : decide (k < 1) = false := decide_eq_false h2
  have hk2 : decide (3 < k) = true := decide_eq_true h1
  clear h1 h2
  have HL2 := Lib.hid H0.out.look
  have HB2 := Lib.hid H0.out.below
  have hW0 := HW0.out
  have o0 : W0.cell? ⟨W.heap.size,0,none⟩ = some (.int .i64 k) := H0.out.op.1 0 (by omega)
  have l0 : W0.cell? ⟨W.heap.size + 1,0,none⟩ = some (.bool false) := HL2.out.1 0 (by omega)
  have l1 : W0.cell? ⟨W.heap.size + 1,1,none⟩ = some (.int .i64 0) := HL2.out.1 1 (by omega)
  have l2 : W0.cell? ⟨W.heap.size + 1,2,none⟩ = some (.int .i64 0) := HL2.out.1 2 (by omega)
  have l3 : W0.cell? ⟨W.heap.size + 1,3,none⟩ = some (.int .i64 0) := HL2.out.1 3 (by omega)
  have l4 : W0.cell? ⟨W.heap.size + 1,4,none⟩ = some (.int .i64 0) := HL2.out.1 4 (by omega)
  have l5 : W0.cell? ⟨W.heap.size + 1,5,none⟩ = some (.int .i64 0) := HL2.out.1 5 (by omega)
  have l6 : W0.cell? ⟨W.heap.size + 1,6,none⟩ = some (.int .i64 0) := HL2.out.1 6 (by omega)
  have l7 : W0.cell? ⟨W.heap.size + 1,7,none⟩ = some (.slice none 0 0) := HL2.out.1 7 (by omega)
  have l8 : W0.cell? ⟨W.heap.size + 1,8,none⟩ = some (.slice none 0 0) := HL2.out.1 8 (by omega)
  have hfr : ∀ i,W0.frozen? ⟨W.heap.size + 1,i,none⟩ = false := HL2.out.2
  go_enter Tryz.func9,Tryz.ntmps9
  go_wp2_with fail
  have HE : Hid (CellsAt (putTo W0 (W.heap.size + 1) (cellsLk lookZero none 0 0 none 0 0) 9) (W.heap.size + 1) 9 (cellsLk lookZero none 0 0 none 0 0)) := putTo_all HL2.out
  have HBE : Hid (Below W.heap.size W (putTo W0 (W.heap.size + 1) (cellsLk lookZero none 0 0 none 0 0) 9)) := below_putTo HB2.out (by omega) 9
  exact run22_ret HE.out HBE.out (rowsAt_nil _ _ rfl rfl) (by rfl) (by rfl)
 ·have hk1 : decide (k < 1) = false := decide_eq_false (by omega)
  have hk2 : decide (3 < k) = false := decide_eq_false (by omega)
  have hzb : (z != 0) = true := by rw [bne_iff_ne];exact hcz
  clear h1 hcz
  go_enter Tryz.func9,Tryz.ntmps9
  go_wp2_with (first
   | (go_at_call 23;rw [HW0.out];refine HCK.out.mono ?_;rintro e w2 ⟨rfl,hb2⟩;have HL2 := Lib.hid (H0.out.look.below hb2 (by omega));have l0 : w2.cell? ⟨W.heap.size + 1,0,none⟩ = some (.bool false) := HL2.out.1 0 (by omega);have l1 : w2.cell? ⟨W.heap.size + 1,1,none⟩ = some (.int .i64 0) := HL2.out.1 1 (by omega);have l2 : w2.cell? ⟨W.heap.size + 1,2,none⟩ = some (.int .i64 0) := HL2.out.1 2 (by omega);have l3 : w2.cell? ⟨W.heap.size + 1,3,none⟩ = some (.int .i64 0) := HL2.out.1 3 (by omega);have l4 : w2.cell? ⟨W.heap.size + 1,4,none⟩ = some (.int .i64 0) := HL2.out.1 4 (by omega);have l5 : w2.cell? ⟨W.heap.size + 1,5,none⟩ = some (.int .i64 0) := HL2.out.1 5 (by omega);have l6 : w2.cell? ⟨W.heap.size + 1,6,none⟩ = some (.int .i64 0) := HL2.out.1 6 (by omega);have l7 : w2.cell? ⟨W.heap.size + 1,7,none⟩ = some (.slice none 0 0) := HL2.out.1 7 (by omega);have l8 : w2.cell? ⟨W.heap.size + 1,8,none⟩ = some (.slice none 0 0) := HL2.out.1 8 (by omega);have hfr : ∀ i,w2.frozen? ⟨W.heap.size + 1,i,none⟩ = false := HL2.out.2;have HB2 := Lib.hid (H0.out.below.trans (hb2.mono (by omega)));clear hb2))
  have HE : Hid (CellsAt (putTo w2 (W.heap.size + 1) (cellsLk lookZero none 0 0 none 0 0) 9) (W.heap.size + 1) 9 (cellsLk lookZero none 0 0 none 0 0)) := putTo_all HL2.out
  have HBE : Hid (Below W.heap.size W (putTo w2 (W.heap.size + 1) (cellsLk lookZero none 0 0 none 0 0) 9)) := below_putTo HB2.out (by omega) 9
  exact run22_ret HE.out HBE.out (rowsAt_nil _ _ rfl rfl) (by rfl) (by rfl)
 ·have hk1 : decide (k < 1) = false := decide_eq_false (by omega)
  have hk2 : decide (3 < k) = false := decide_eq_false (by omega)
  have hbig : decide ((20000 : Int) < (nf : Int)) = true := by simp;omega
  clear h1 hnf2
  go_enter Tryz.func9,Tryz.ntmps9
  go_wp2_with (first
   | (go_at_call 23;rw [HW0.out];refine HCK.out.mono ?_;rintro e w2 ⟨rfl,hb2⟩;have HL2 := Lib.hid (H0.out.look.below hb2 (by omega));have l0 : w2.cell? ⟨W.heap.size + 1,0,none⟩ = some (.bool false) := HL2.out.1 0 (by omega);have l1 : w2.cell? ⟨W.heap.size + 1,1,none⟩ = some (.int .i64 0) := HL2.out.1 1 (by omega);have l2 : w2.cell? ⟨W.heap.size + 1,2,none⟩ = some (.int .i64 0) := HL2.out.1 2 (by omega);have l3 : w2.cell? ⟨W.heap.size + 1,3,none⟩ = some (.int .i64 0) := HL2.out.1 3 (by omega);have l4 : w2.cell? ⟨W.heap.size + 1,4,none⟩ = some (.int .i64 0) := HL2.out.1 4 (by omega);have l5 : w2.cell? ⟨W.heap.size + 1,5,none⟩ = some (.int .i64 0) := HL2.out.1 5 (by omega);have l6 : w2.cell? ⟨W.heap.size + 1,6,none⟩ = some (.int .i64 0) := HL2.out.1 6 (by omega);have l7 : w2.cell? ⟨W.heap.size + 1,7,none⟩ = some (.slice none 0 0) := HL2.out.1 7 (by omega);have l8 : w2.cell? ⟨W.heap.size + 1,8,none⟩ = some (.slice none 0 0) := HL2.out.1 8 (by omega);have hfr : ∀ i,w2.frozen? ⟨W.heap.size + 1,i,none⟩ = false := HL2.out.2;have HB2 := Lib.hid (H0.out.below.trans (hb2.mono (by omega)));clear hb2))
  have HE : Hid (CellsAt (putTo w2 (W.heap.size + 1) (cellsLk lookZero none 0 0 none 0 0) 9) (W.heap.size + 1) 9 (cellsLk lookZero none 0 0 none 0 0)) := putTo_all HL2.out
  have HBE : Hid (Below W.heap.size W (putTo w2 (W.heap.size + 1) (cellsLk lookZero none 0 0 none 0 0) 9)) := below_putTo HB2.out (by omega) 9
  exact run22_ret HE.out HBE.out (rowsAt_nil _ _ rfl rfl) (by rfl) (by rfl)
end
section
open Go.RowKit Go.Maps
attribute [local go_sem] Oper.semAt_some
variable {FA : Option Addr} {nf cf : Nat} {fed : List Nat}
def Last22 (R : Nat) (S : Value) (P : World -> Prop) (w : World) : Prop :=
 w.cell? ⟨R,1,none⟩ = some S ∧ P w ∧ True
theorem ask_look (names : List (List UInt8)) (k : Int) (a n : Nat) (fed : List Nat) : ((askR k a n fed names ([],false)).2.2 = false ∧ lookOf (lookF names k a n fed []) = ⟨false,0,(askR k a n fed names ([],false)).2.1.length,(askR k a n fed names ([],false)).1⟩) ∨
  ((askR k a n fed names ([],false)).2.2 = true ∧ ∃ p,lookOf (lookF names k a n fed []) = ⟨true,p,0,resZero⟩ ∧ (askR k a n fed names ([],false)).2.1.length = fed.length + 1 ∧ (askR k a n fed names ([],false)).2.1[fed.length]? = some p) := by
 have h := ask_sim (fed := fed) names k a n
 have hs := look_steady names k a n fed []
 unfold Steady at hs
 unfold Sim at h
 cases hl : lookF names k a n fed [] with
 | val r l =>
  rw [hl] at h
  simp only at h
  refine .inl ⟨by rw [h.2],?_⟩
  rw [h.2,h.1]
  rfl
 | stop o l =>
  rw [hl] at h hs
  cases o with
  | err c =>
   simp only at h
   refine .inl ⟨by rw [h.2],?_⟩
   rw [h.2,h.1]
   rfl
  | need p =>
   simp only at h hs
   refine .inr ⟨by rw [h],p,rfl,by rw [h];exact hs.1,by rw [h];exact hs.2.1⟩
set_option maxRecDepth 100000 in
set_option maxHeartbeats 8000000 in
theorem ref22_yes (k : Int) (p d : ByteArray) (a n : Int) (A : Option Addr) (m c : Nat) (W : World) (hp : p.size < 4294967281) (hd : d.size < 4294967281) (ha : a < 9223372036854775808) (hn : n < 9223372036854775808)
  (hfl : fed.length = nf) (hnf : nf <= 20000) (hx64 : ∀ x ∈ fed,x < 18446744073709551616) (hfrow : RowAt W FA (fed.map encW)) (hz : refuseN k (bytesOf p) (bytesOf d) a n m = 0) :
  Calls Tryz.prog 9 #[opV k p d a n A m c,.slice FA nf cf] W (LookR (lookOf (lookF (readP (bytesOf p)).2 k a.toNat n.toNat fed []),0) W) := by
 have hq : 1 <= k ∧ k <= 3 := by
  unfold refuseN at hz
  by_cases h1 : k < 1 ∨ 3 < k
  ·rw [if_pos h1] at hz;cases hz
  ·omega
 have hcz : checkN k (bytesOf p) (bytesOf d) a n m = 0 := by
  unfold refuseN at hz
  rwa [if_neg (by omega)] at hz
 have hrd : (readP (bytesOf p)).1 = 0 := by
  unfold checkN at hcz
  rw [if_neg (by omega)] at hcz
  by_cases h1 : (readP (bytesOf p)).1 = 0
  ·exact h1
  ·rw [if_pos h1] at hcz;omega
 have han : k = 3 -> 0 <= a ∧ 0 <= n := fun h => by
  subst h
  unfold checkN at hcz
  rw [if_neg (by omega),if_neg (by rw [hrd];exact fun h => h rfl),if_neg (by omega),if_pos rfl] at hcz
  by_cases h2 : a < 0 ∨ n < 0
  ·rw [if_pos h2] at hcz;cases hcz
  ·omega
 obtain ⟨W0,hW0⟩ : ∃ W0,(W.alloc (.cells #[.int .i64 k,.string p,.string d,.int .i64 a,.int .i64 n,.slice A m c] 28)).alloc (.cells #[.bool false,.int .i64 0,.int .i64 0,.int .i64 0,.int .i64 0,.int .i64 0,.int .i64 0,.slice none 0 0,.slice none 0 0] 35) = W0 := ⟨_,rfl⟩
 have h0 := runBegun k p d a n A m c W W0 hW0
 have hck := check11_any k p d a n A m c W0 hp hd
 rw [hcz] at hck
 have H0 := Lib.hid h0
 have HW0 := Lib.hid hW0
 have hs0 := h0.size
 have hlk := ask_look (readP (bytesOf p)).2 k a.toNat n.toNat fed
 have HAK := Lib.hid (fun (R : Nat) (W1 : World) (h1 : RfAt R FA nf cf fed ([],false) W1) => askR_any k p d a n A m c W1 hq hp hrd han ha hn (okSt0 fed) hnf hx64 h1)
 generalize lookOf (lookF (readP (bytesOf p)).2 k a.toNat n.toNat fed []) = lk at *
 generalize askR k a.toNat n.toNat fed (readP (bytesOf p)).2 ([],false) = qr at *
 obtain ⟨⟨q0,q1,q2,q3,q4,q5⟩,l,mo⟩ := qr
 simp only at hlk HAK
 unfold opV at hck ⊢
 unfold opV at HAK
 have HCK := Lib.hid hck
 have HLK := Lib.hid hlk
 have HFL := Lib.hid hfl
 have HFR := Lib.hid hfrow
 have hk1 : decide (k < 1) = false := decide_eq_false (by omega)
 have hk2 : decide (3 < k) = false := decide_eq_false (by omega)
 have hsm : decide ((20000 : Int) < (nf : Int)) = false := by simp;omega
 clear hck h0 hW0 hz hcz hrd han hx64 hfl hfrow hlk hq
 go_enter Tryz.func9,Tryz.ntmps9
 go_wp2_with fail
 rw [HW0.out]
 refine HCK.out.mono ?_
 rintro e w2 ⟨rfl,hb2⟩
 have HO2 := Lib.hid (H0.out.op.below hb2 (by omega))
 have HL2 := Lib.hid (H0.out.look.below hb2 (by omega))
 have HB2 := Lib.hid (H0.out.below.trans (hb2.mono (by omega)))
 have hs2 : W.heap.size + 2 <= w2.heap.size := by have := hb2.size;omega
 obtain ⟨w3,hw3⟩ : ∃ w3,w2.alloc (.cells #[.slice FA nf cf,.slice none 0 0,.bool false] 74) = w3 := ⟨_,rfl⟩
 have H3 : Hid (RfAt w2.heap.size FA nf cf fed ([],false) w3) := by rw [Hid,<- hw3];exact rfAt_new w2 _ HFL.out (HFR.out.below HB2.out)
 have hb3 : Below w2.heap.size w2 w3 := by rw [<- hw3];exact (Below.refl _ _).alloc (Nat.le_refl _) _
 have HL3 := Lib.hid (HL2.out.below hb3 (by omega))
 have HB3 := Lib.hid (HB2.out.trans (hb3.mono (by omega)))
 have hs3 : w3.heap.size = w2.heap.size + 1 := by rw [<- hw3];simp
 have HO3 := Lib.hid (HO2.out.below hb3 (by omega))
 have o0 : w3.cell? ⟨W.heap.size,0,none⟩ = some (.int .i64 k) := HO3.out.1 0 (by omega)
 have o1 : w3.cell? ⟨W.heap.size,1,none⟩ = some (.string p) := HO3.out.1 1 (by omega)
 have o2 : w3.cell? ⟨W.heap.size,2,none⟩ = some (.string d) := HO3.out.1 2 (by omega)
 have o3 : w3.cell? ⟨W.heap.size,3,none⟩ = some (.int .i64 a) := HO3.out.1 3 (by omega)
 have o4 : w3.cell? ⟨W.heap.size,4,none⟩ = some (.int .i64 n) := HO3.out.1 4 (by omega)
 have o5 : w3.cell? ⟨W.heap.size,5,none⟩ = some (.slice A m c) := HO3.out.1 5 (by omega)
 clear hb2
 go_wp2_with fail
 refine (HAK.out _ w3 H3.out).mono ?_
 rintro e w4 ⟨⟨NA,nn,nc,BA,bn,bc,rfl,hrow⟩,h4,hok4,hb4⟩
 obtain ⟨R,hR⟩ : ∃ R,w2.heap.size = R := ⟨_,rfl⟩
 rw [hR] at h4 hb4 hs3 hs2 H3
 have hL4 : CellsAt w4 (W.heap.size + 1) 9 (cellsLk lookZero none 0 0 none 0 0) := HL3.out.below (hb4.to_below H3.out.rd (n := R) (by omega) (Nat.le_refl _)) (by omega)
 have hB4 : Below W.heap.size W w4 := HB3.out.trans (hb4.to_below H3.out.rd (by omega) (by omega))
 have hs4 := hb4.size
 clear hb4 hok4 hw3 o0 o1 o2 o3 o4 o5 hb3
 obtain ⟨E,hE⟩ : ∃ E,w4.heap.size = E := ⟨_,rfl⟩
 obtain ⟨w5,hw5⟩ : ∃ w5,w4.alloc (.cells #[.int .i64 q0,.int .i64 q1,.int .i64 q2,.int .i64 q3,.slice NA nn nc,.slice BA bn bc] 33) = w5 := ⟨_,rfl⟩
 have hb5 : Below w4.heap.size w4 w5 := by rw [<- hw5];exact (Below.refl _ _).alloc (Nat.le_refl _) _
 have hc5 : CellsAt w5 E 6 (cellsO ⟨q0,q1,q2,q3,q4,q5⟩ NA nn nc BA bn bc) := by
  rw [<- hw5,<- hE]
  exact cellsAt_new _ _ _ _ _ fun i hi => match i,hi with | 0,_ => rfl | 1,_ => rfl | 2,_ => rfl | 3,_ => rfl | 4,_ => rfl | 5,_ => rfl
 have h5 := h4.below hb5
 have HL5 := Lib.hid (hL4.below hb5 (by omega))
 have HB5 := Lib.hid (hB4.trans (hb5.mono (by omega)))
 have HV5 : Hid (RowsAt w3.heap.size w5 ⟨q0,q1,q2,q3,q4,q5⟩ NA nn nc BA bn bc) := RowsAt.below (base := w3.heap.size) hrow hb5 (Nat.le_refl _)
 have HS5 : Hid (W.heap.size + 1 < w3.heap.size) := by rw [Hid];omega
 have HC5 := Lib.hid hc5
 have hmo : w5.cell? ⟨R,2,none⟩ = some (.bool mo) := h5.mo
 obtain ⟨v,hv,hown⟩ := h5.rd.atsv
 obtain ⟨A2,c2,rfl,hlc,hcm,hA2⟩ := owns_slice' hown
 have HRW := Lib.hid (row_of_own hown)
 have hmx : Tryz.prog.follows .mixedOrders = true := by kernel_rfl
 clear hb5 hc5 h5 h4 hown hrow hL4 hB4
 rw [hR]
 clear hR
 cases mo with
 | false =>
  have hlk : lk = ⟨false,0,l.length,⟨q0,q1,q2,q3,q4,q5⟩⟩ := by
   rcases HLK.out with ⟨_,h⟩ | ⟨h,_⟩
   ·exact h
   ·cases h
  have HLA := Lib.hid hlk
  clear hlk HLK
  generalize hLL : l.length = L at *
  clear hLL
  go_wp2_with fail
  have hS0 : Last22 R (.slice A2 L c2) (fun w => CellsAt w E 6 (cellsO ⟨q0,q1,q2,q3,q4,q5⟩ NA nn nc BA bn bc)) w5.drew := ⟨hv,HC5.out,trivial⟩
  clear hw5 hmo hv
  refine (wpIn_wide (n := 10)).1 ?_
  refine whichever_region (Last22 R (.slice A2 L c2) (fun w => CellsAt w E 6 (cellsO ⟨q0,q1,q2,q3,q4,q5⟩ NA nn nc BA bn bc))) [7,8] hmx ?_
  have HL8 : Hid (CellsAt w5.drew (W.heap.size + 1) 9 (cellsLk lookZero none 0 0 none 0 0)) := HL5.out
  have HB8 : Hid (Below W.heap.size W w5.drew) := HB5.out.drew
  have HV8 : Hid (RowsAt w3.heap.size w5.drew ⟨q0,q1,q2,q3,q4,q5⟩ NA nn nc BA bn bc) := RowsAt.below HV5.out (Below.refl _ w5).drew (Nat.le_refl _)
  clear HL5 HB5 HV5 HRW
  generalize w5.drew = w8 at *
  refine whichever_take 0 (.pointer (some ⟨R,0,none⟩)) [7,8] rfl (by kernel_rfl) (fun _ _ _ h => h) hS0 (by rfl) (fun w hw => ?_) ?_
  ·obtain ⟨q1,q2,q3⟩ := hw
   constructor <;> go_simp
  refine whichever_take 1 (.pointer (some ⟨R,0,none⟩)) [7,8] rfl (by kernel_rfl) (fun _ _ _ h => h) hS0 (by rfl) (fun w hw => ?_) ?_
  ·obtain ⟨q1,q2,q3⟩ := hw
   constructor <;> go_simp
  refine whichever_take 2 (.pointer (some ⟨R,1,none⟩)) [7,8] rfl (by kernel_rfl) (fun _ _ _ h => h) hS0 (by rfl) (fun w hw => ?_) ?_
  ·obtain ⟨q1,q2,q3⟩ := hw
   constructor <;> go_simp
  refine whichever_take 3 (.slice A2 L c2) [7,8] rfl (by kernel_rfl) (fun _ _ _ h => h) hS0 (by rfl) (fun w hw => ?_) ?_
  ·obtain ⟨q1,q2,q3⟩ := hw
   constructor <;> go_simp
  refine whichever_take 4 (.int .i64 (L : Nat)) [7,8] rfl (by kernel_rfl) (fun _ _ _ h => h) hS0 (by rfl) (fun w hw => ?_) ?_
  ·obtain ⟨q1,q2,q3⟩ := hw
   constructor <;> go_simp
  refine whichever_take 5 (.agg #[.int .i64 q0,.int .i64 q1,.int .i64 q2,.int .i64 q3,.slice NA nn nc,.slice BA bn bc]) [7,8] rfl (by kernel_rfl) (fun _ _ _ h => h) hS0 (by rfl) (fun w hw => ?_) ?_
  ·obtain ⟨q1,q2,q3⟩ := hw
   have e0 := q2.1 0 (by omega)
   have e1 := q2.1 1 (by omega)
   have e2 := q2.1 2 (by omega)
   have e3 := q2.1 3 (by omega)
   have e4 := q2.1 4 (by omega)
   have e5 := q2.1 5 (by omega)
   simp only [cellsO] at e0 e1 e2 e3 e4 e5
   clear q2
   constructor <;> go_simp
  refine whichever_next 6 rfl (by kernel_rfl) (by rfl) ?_
  go_simp
  clear hS0
  have l0 : w8.cell? ⟨W.heap.size + 1,0,none⟩ = some (.bool false) := HL8.out.1 0 (by omega)
  have l1 : w8.cell? ⟨W.heap.size + 1,1,none⟩ = some (.int .i64 0) := HL8.out.1 1 (by omega)
  have l2 : w8.cell? ⟨W.heap.size + 1,2,none⟩ = some (.int .i64 0) := HL8.out.1 2 (by omega)
  have l3 : w8.cell? ⟨W.heap.size + 1,3,none⟩ = some (.int .i64 0) := HL8.out.1 3 (by omega)
  have l4 : w8.cell? ⟨W.heap.size + 1,4,none⟩ = some (.int .i64 0) := HL8.out.1 4 (by omega)
  have l5 : w8.cell? ⟨W.heap.size + 1,5,none⟩ = some (.int .i64 0) := HL8.out.1 5 (by omega)
  have l6 : w8.cell? ⟨W.heap.size + 1,6,none⟩ = some (.int .i64 0) := HL8.out.1 6 (by omega)
  have l7 : w8.cell? ⟨W.heap.size + 1,7,none⟩ = some (.slice none 0 0) := HL8.out.1 7 (by omega)
  have l8 : w8.cell? ⟨W.heap.size + 1,8,none⟩ = some (.slice none 0 0) := HL8.out.1 8 (by omega)
  have hfr : ∀ i,w8.frozen? ⟨W.heap.size + 1,i,none⟩ = false := HL8.out.2
  refine whichever_next 7 rfl (by kernel_rfl) (by rfl) ?_
  go_simp
  refine whichever_next 8 rfl (by kernel_rfl) (by rfl) ?_
  go_simp
  refine whichever_end (by kernel_rfl) ?_
  rename_i K hK
  refine hK _ _ ?_
  go_wp2_with fail
  have HE : Hid (CellsAt (putTo w8 (W.heap.size + 1) (cellsLk ⟨false,0,L,⟨q0,q1,q2,q3,q4,q5⟩⟩ NA nn nc BA bn bc) 9) (W.heap.size + 1) 9 (cellsLk ⟨false,0,L,⟨q0,q1,q2,q3,q4,q5⟩⟩ NA nn nc BA bn bc)) := putTo_all HL8.out
  have HBE : Hid (Below W.heap.size W (putTo w8 (W.heap.size + 1) (cellsLk ⟨false,0,L,⟨q0,q1,q2,q3,q4,q5⟩⟩ NA nn nc BA bn bc) 9)) := below_putTo HB8.out (by omega) 9
  have HVE : Hid (RowsAt W.heap.size (putTo w8 (W.heap.size + 1) (cellsLk ⟨false,0,L,⟨q0,q1,q2,q3,q4,q5⟩⟩ NA nn nc BA bn bc) 9) ⟨q0,q1,q2,q3,q4,q5⟩ NA nn nc BA bn bc) := (HV8.out.putTo HS5.out 9).below (Below.refl _ _) (by omega)
  rw [HLA.out]
  exact run22_ret HE.out HBE.out HVE.out (by rfl) (by rfl)
 | true =>
  obtain ⟨pp,hlk,hlen,hpp⟩ : ∃ pp,lk = ⟨true,pp,0,resZero⟩ ∧ l.length = fed.length + 1 ∧ l[fed.length]? = some pp := by
   rcases HLK.out with ⟨h,_⟩ | ⟨_,pp,h⟩
   ·cases h
   ·exact ⟨pp,h⟩
  obtain ⟨b,off,rfl,hbW,hcb⟩ := HRW.out (by rw [List.length_map];show 0 < l.length;rw [hlen];exact Nat.succ_pos _)
  have hpc : w5.cell? ⟨b,off + fed.length,none⟩ = some (.int .i64 pp) := hcb fed.length _ (by rw [List.getElem?_map,hpp];rfl)
  have HLA := Lib.hid hlk
  have hlf : fed.length <= 20000 := by rw [show fed.length = nf from HFL.out];exact hnf
  clear hlk HLK hpp hcb hA2 HRW HFR
  generalize fed.length = q at *
  have hsub : IntKind.i64.wrap ((l.length : Int) - 1) = (q : Int) := by rw [IntWalk.i64_in _ (by omega)];omega
  generalize l.length = L at *
  have hql : (q : Int) < (L : Int) := by omega
  have hql' : q < L := by omega
  clear hlen
  go_wp2_with fail
  have hS0 : Last22 R (.slice (some ⟨b,off,none⟩) L c2) (fun w => w.cell? ⟨b,off + q,none⟩ = some (.int .i64 pp)) w5.drew := ⟨hv,hpc,trivial⟩
  clear hw5 hmo hv hpc
  refine (wpIn_wide (n := 16)).1 ?_
  refine whichever_region (Last22 R (.slice (some ⟨b,off,none⟩) L c2) (fun w => w.cell? ⟨b,off + q,none⟩ = some (.int .i64 pp))) [13,14] hmx ?_
  have HL8 : Hid (CellsAt w5.drew (W.heap.size + 1) 9 (cellsLk lookZero none 0 0 none 0 0)) := HL5.out
  have HB8 : Hid (Below W.heap.size W w5.drew) := HB5.out.drew
  clear HL5 HB5 HV5
  generalize w5.drew = w8 at *
  refine whichever_take 0 (.pointer (some ⟨R,0,none⟩)) [13,14] rfl (by kernel_rfl) (fun _ _ _ h => h) hS0 (by rfl) (fun w hw => ?_) ?_
  ·obtain ⟨q1,q2,q3⟩ := hw
   constructor <;> go_simp
  refine whichever_take 1 (.pointer (some ⟨R,0,none⟩)) [13,14] rfl (by kernel_rfl) (fun _ _ _ h => h) hS0 (by rfl) (fun w hw => ?_) ?_
  ·obtain ⟨q1,q2,q3⟩ := hw
   constructor <;> go_simp
  refine whichever_take 2 (.pointer (some ⟨R,1,none⟩)) [13,14] rfl (by kernel_rfl) (fun _ _ _ h => h) hS0 (by rfl) (fun w hw => ?_) ?_
  ·obtain ⟨q1,q2,q3⟩ := hw
   constructor <;> go_simp
  refine whichever_take 3 (.slice (some ⟨b,off,none⟩) L c2) [13,14] rfl (by kernel_rfl) (fun _ _ _ h => h) hS0 (by rfl) (fun w hw => ?_) ?_
  ·obtain ⟨q1,q2,q3⟩ := hw
   constructor <;> go_simp
  refine whichever_take 4 (.pointer (some ⟨R,0,none⟩)) [13,14] rfl (by kernel_rfl) (fun _ _ _ h => h) hS0 (by rfl) (fun w hw => ?_) ?_
  ·obtain ⟨q1,q2,q3⟩ := hw
   constructor <;> go_simp
  refine whichever_take 5 (.pointer (some ⟨R,0,none⟩)) [13,14] rfl (by kernel_rfl) (fun _ _ _ h => h) hS0 (by rfl) (fun w hw => ?_) ?_
  ·obtain ⟨q1,q2,q3⟩ := hw
   constructor <;> go_simp
  refine whichever_take 6 (.pointer (some ⟨R,1,none⟩)) [13,14] rfl (by kernel_rfl) (fun _ _ _ h => h) hS0 (by rfl) (fun w hw => ?_) ?_
  ·obtain ⟨q1,q2,q3⟩ := hw
   constructor <;> go_simp
  refine whichever_take 7 (.slice (some ⟨b,off,none⟩) L c2) [13,14] rfl (by kernel_rfl) (fun _ _ _ h => h) hS0 (by rfl) (fun w hw => ?_) ?_
  ·obtain ⟨q1,q2,q3⟩ := hw
   constructor <;> go_simp
  refine whichever_take 8 (.int .i64 (L : Nat)) [13,14] rfl (by kernel_rfl) (fun _ _ _ h => h) hS0 (by rfl) (fun w hw => ?_) ?_
  ·obtain ⟨q1,q2,q3⟩ := hw
   constructor <;> go_simp
  refine whichever_take 9 (.int .i64 (q : Nat)) [13,14] rfl (by kernel_rfl) (fun _ _ _ h => h) hS0 (by rfl) (fun w hw => ?_) ?_
  ·obtain ⟨q1,q2,q3⟩ := hw
   constructor <;> go_simp
  refine whichever_take 10 (.pointer (some ⟨b,off + q,none⟩)) [13,14] rfl (by kernel_rfl) (fun _ _ _ h => h) hS0 (by rfl) (fun w hw => ?_) ?_
  ·obtain ⟨q1,q2,q3⟩ := hw
   constructor <;> go_simp
  refine whichever_take 11 (.int .i64 (pp : Nat)) [13,14] rfl (by kernel_rfl) (fun _ _ _ h => h) hS0 (by rfl) (fun w hw => ?_) ?_
  ·obtain ⟨q1,q2,q3⟩ := hw
   constructor <;> go_simp
  refine whichever_next 12 rfl (by kernel_rfl) (by rfl) ?_
  go_simp
  clear hS0
  have l0 : w8.cell? ⟨W.heap.size + 1,0,none⟩ = some (.bool false) := HL8.out.1 0 (by omega)
  have l1 : w8.cell? ⟨W.heap.size + 1,1,none⟩ = some (.int .i64 0) := HL8.out.1 1 (by omega)
  have l2 : w8.cell? ⟨W.heap.size + 1,2,none⟩ = some (.int .i64 0) := HL8.out.1 2 (by omega)
  have l3 : w8.cell? ⟨W.heap.size + 1,3,none⟩ = some (.int .i64 0) := HL8.out.1 3 (by omega)
  have l4 : w8.cell? ⟨W.heap.size + 1,4,none⟩ = some (.int .i64 0) := HL8.out.1 4 (by omega)
  have l5 : w8.cell? ⟨W.heap.size + 1,5,none⟩ = some (.int .i64 0) := HL8.out.1 5 (by omega)
  have l6 : w8.cell? ⟨W.heap.size + 1,6,none⟩ = some (.int .i64 0) := HL8.out.1 6 (by omega)
  have l7 : w8.cell? ⟨W.heap.size + 1,7,none⟩ = some (.slice none 0 0) := HL8.out.1 7 (by omega)
  have l8 : w8.cell? ⟨W.heap.size + 1,8,none⟩ = some (.slice none 0 0) := HL8.out.1 8 (by omega)
  have hfr : ∀ i,w8.frozen? ⟨W.heap.size + 1,i,none⟩ = false := HL8.out.2
  refine whichever_next 13 rfl (by kernel_rfl) (by rfl) ?_
  go_simp
  refine whichever_next 14 rfl (by kernel_rfl) (by rfl) ?_
  go_simp
  refine whichever_end (by kernel_rfl) ?_
  rename_i K hK
  refine hK _ _ ?_
  go_wp2_with fail
  have HE : Hid (CellsAt (putTo w8 (W.heap.size + 1) (cellsLk ⟨true,pp,0,resZero⟩ none 0 0 none 0 0) 9) (W.heap.size + 1) 9 (cellsLk ⟨true,pp,0,resZero⟩ none 0 0 none 0 0)) := putTo_all HL8.out
  have HBE : Hid (Below W.heap.size W (putTo w8 (W.heap.size + 1) (cellsLk ⟨true,pp,0,resZero⟩ none 0 0 none 0 0) 9)) := below_putTo HB8.out (by omega) 9
  rw [HLA.out]
  exact run22_ret HE.out HBE.out (rowsAt_nil _ _ rfl rfl) (by rfl) (by rfl)
theorem ref22_any (k : Int) (p d : ByteArray) (a n : Int) (A : Option Addr) (m c : Nat) (W : World) (hp : p.size < 4294967281) (hd : d.size < 4294967281) (ha : a < 9223372036854775808) (hn : n < 9223372036854775808)
  (hfl : fed.length = nf) (hx64 : ∀ x ∈ fed,x < 18446744073709551616) (hfrow : RowAt W FA (fed.map encW)) :
  Calls Tryz.prog 9 #[opV k p d a n A m c,.slice FA nf cf] W (LookR (lookN k (bytesOf p) (bytesOf d) a n m fed) W) := by
 by_cases hz : refuseN k (bytesOf p) (bytesOf d) a n m = 0
 ·by_cases hf : 20000 < fed.length
  ·rw [lookN_long hz hf]
   exact ref22_no k p d a n A m c W hp hd 3 (.inr ⟨hz,by omega,rfl⟩)
  ·rw [lookN_fine hz (by omega)]
   exact ref22_yes k p d a n A m c W hp hd ha hn hfl (by omega) hx64 hfrow hz
 ·rw [lookN_refused fed hz]
  exact ref22_no k p d a n A m c W hp hd _ (.inl ⟨hz,rfl⟩)
end
section
open Go.RowKit
attribute [local go_sem] Oper.semAt_some
end
end Go.Proofs.YtdpooagnbmpinaaGreatDoor
