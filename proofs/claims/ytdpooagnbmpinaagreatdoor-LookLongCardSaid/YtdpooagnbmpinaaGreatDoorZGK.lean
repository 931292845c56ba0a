import Derived.Test.YtdpooagnbmpinaaGreatDoorZI0
import Derived.Deep.RegionWith
import Derived.Test.YtdpooagnbmpinaaGreatDoorZK7
namespace Go.Proofs.YtdpooagnbmpinaaGreatDoor
section
open Go.RowKit
theorem wordsP_right' {s : List UInt8} (h : rightB s = true) : wordsP s = wordAt s := by funext k;rw [wordsP,h];rfl
variable {R : Nat} {FA : Option Addr} {nf cf : Nat} {fed ats : List Nat}
set_option maxRecDepth 100000 in
set_option maxHeartbeats 8000000 in
theorem fits_any (line : Nat) (s : ByteArray) (W : World) (hline : line <= 100000) (hr : rightB (bytesOf s) = true) (hl : ats.length + 10 <= 100000) (hnf : nf <= 100000) (hx64 : ∀ x ∈ fed,x < 18446744073709551616) (h : RdAt R FA nf cf fed ats W) :
  Calls Tryz.prog 83 #[.pointer (some ⟨R,0,none⟩),.int .i64 line,.string s] W (ReadsTo R FA nf cf fed W (fun b : Bool => .bool b) (fitsP fed line (bytesOf s) ats)) := by
 obtain ⟨hs1,hs40⟩ := rightB_size hr
 rw [size_bytesOf] at hs1 hs40
 have HL := Lib.hid (fun (p : Nat) (ats : List Nat) (W : World) (hp : p < 9223372036854775808) (hl : ats.length <= 100000) (h : RdAt R FA nf cf fed ats W) => loadTo p W hp hl hnf hx64 h)
 have hW := fun W => labelWords_any s W (by unfold maxLen;omega)
 rw [wordsP_right' hr] at hW
 have HWL : Hid (∀ k,k < (s.size + 7) / 8 -> (wordsN (bytesOf s))[k]? = some (wordAt (bytesOf s) k)) := fun k hk => by
  rw [wordsN,List.getElem?_map,List.getElem?_range (by rw [size_bytesOf];exact hk)];rfl
 have HWN : Hid ((wordsN (bytesOf s)).length = (s.size + 7) / 8) := by rw [Hid,wordsN_length,size_bytesOf]
 have hat := fun W => at_any line 2 W (by omega)
 have HFP : Hid (fitsP fed line (bytesOf s) ats = (loadP fed (line * 8 + 2) ats).bind fun y ats => if y = (bytesOf s).length then fitsW fed line (wordsN (bytesOf s)) 0 ats else .val false ats) := rfl
 obtain ⟨p,hp⟩ : ∃ p,line * 8 + 2 = p := ⟨_,rfl⟩
 rw [hp] at hat HFP
 have hpb : p < 9223372036854775808 := by omega
 have HAT := Lib.hid hat
 have HR := Lib.hid h
 have HX := Lib.hid hx64
 obtain ⟨n,hn⟩ : ∃ n,s.size = n := ⟨_,rfl⟩
 have hbn : (bytesOf s).length = n := by rw [size_bytesOf];exact hn
 rw [hbn] at HFP
 rw [hn] at hs1 hs40 HWL HWN
 have q1 : IntKind.i64.wrap ((n : Int) + 8) = ((n + 8 : Nat) : Int) := by rw [IntWalk.i64_in _ (by omega)];omega
 have q2 : IntKind.i64.wrap (((n + 8 : Nat) : Int) - 1) = ((n + 7 : Nat) : Int) := by rw [IntWalk.i64_in _ (by omega)];omega
 have q3 : ((n + 7 : Nat) : Int).tdiv 8 = (((n + 7) / 8 : Nat) : Int) := by rw [Int.tdiv_eq_ediv_of_nonneg (by omega)];rfl
 have q4 : IntKind.u64.wrap (n : Int) = (n : Int) := IntWalk.u64_in _ (by omega)
 obtain ⟨m,hm⟩ : ∃ m,(n + 7) / 8 = m := ⟨_,rfl⟩
 have hm5 : m <= 5 := by omega
 have q5 : IntKind.i64.wrap (m : Int) = (m : Int) := IntWalk.i64_in _ (by omega)
 rw [hm] at q3 HWL HWN
 generalize n + 8 = n8 at *
 generalize n + 7 = n7 at *
 have HSZ : Hid (s.size = n) := hn
 clear h hat hx64 hbn hp
 generalize wordAt (bytesOf s) = f at *
 generalize wordsN (bytesOf s) = ws at *
 unfold encF at hW
 have HW := Lib.hid hW
 clear hW
 generalize hr1 : loadP fed p ats = r1 at HFP
 cases r1 with
 | stop o l =>
  have HEF : Hid (fitsP fed line (bytesOf s) ats = .stop o l) := HFP.out
  go_enter Tryz.func83,Tryz.ntmps83
  go_wp2_with fail
  refine wp_scope_fwd 1 ?_
  go_wp2_with go_step3
  refine (HW.out _).mono ?_
  rintro e w1 ⟨rfl,hb1⟩
  have hbA : Below W.heap.size W (w1.alloc (.cells #[.int .u64 (f 0 : Nat),.int .u64 (f 1 : Nat),.int .u64 (f 2 : Nat),.int .u64 (f 3 : Nat),.int .u64 (f 4 : Nat)] 190)) := hb1.alloc hb1.size _
  have HC := Lib.hid (reads_stop (HL.out _ _ _ hpb (by omega) (HR.out.below hbA).drew') hr1)
  have HB1 := Lib.hid ((RB.of_below hbA HR.out.lt).trans (RB.drew' R W.heap.size _))
  clear hr1 hb1
  go_wp2_with go_step3
  refine wp_region_any (by kernel_rfl) ?_
  refine wpAny_take (i := 0) (v := ?_) rfl (by kernel_rfl) (by kernel_rfl) (by kernel_rfl) (fun _ _ _ h => h) (Or.inl ⟨by rfl,?_⟩) ?_
  rotate_left
  ·intro w;go_simp;try with_reducible rfl
  refine wpAny_take (i := 1) (v := ?_) rfl (by kernel_rfl) (by kernel_rfl) (by kernel_rfl) (fun _ _ _ h => h) (Or.inl ⟨by rfl,?_⟩) ?_
  rotate_left
  ·intro w;go_simp;try with_reducible rfl
  refine wpAny_take (i := 2) (v := ?_) rfl (by kernel_rfl) (by kernel_rfl) (by kernel_rfl) (fun _ _ _ h => h) (Or.inl ⟨by rfl,?_⟩) ?_
  rotate_left
  ·intro w;go_simp;try with_reducible rfl
  refine wpAny_take (i := 3) (v := ?_) rfl (by kernel_rfl) (by kernel_rfl) (by kernel_rfl) (fun _ _ _ h => h) (Or.inl ⟨by rfl,?_⟩) ?_
  rotate_left
  ·intro w;go_simp;try with_reducible rfl
  refine wpAny_take (i := 6) (v := ?_) rfl (by kernel_rfl) (by kernel_rfl) (by kernel_rfl) (fun _ _ _ h => h) (Or.inl ⟨by rfl,?_⟩) ?_
  rotate_left
  ·intro w;go_simp;try with_reducible rfl
  refine wpAny_take (i := 7) (v := ?_) rfl (by kernel_rfl) (by kernel_rfl) (by kernel_rfl) (fun _ _ _ h => h) (Or.inl ⟨by rfl,?_⟩) ?_
  rotate_left
  ·intro w;go_simp;try with_reducible rfl
  refine wpAny_take (i := 8) (v := ?_) rfl (by kernel_rfl) (by kernel_rfl) (by kernel_rfl) (fun _ _ _ h => h) (Or.inl ⟨by rfl,?_⟩) ?_
  rotate_left
  ·intro w;go_simp;try with_reducible rfl
  refine wpAny_ready (rs := [4]) (by kernel_rfl) (by simp) ?_
  refine AllReady.cons rfl (fun K hK => ?_) AllReady.nil
  go_simp
  refine (HAT.out _).mono ?_
  rintro e w2 ⟨rfl,rfl⟩
  refine hK _ _ ?_
  clear hK K
  refine wpAny_ready (rs := [5]) (by kernel_rfl) (by simp) ?_
  refine AllReady.cons rfl (fun K hK => ?_) AllReady.nil
  go_simp
  refine HC.out.mono ?_
  rintro e w2 ⟨rfl,h2,hb2⟩
  exact ⟨rfl,by rw [HEF.out];exact ⟨(endOf_stop _ _ _).symm,h2,HB1.out.trans (hb2.mono (by have := hbA.size;exact this))⟩⟩
 | val y l1 =>
  obtain ⟨hl1,hyf⟩ := loadP_val hr1
  have hlen : l1.length = ats.length + 1 := by rw [hl1,List.length_append];rfl
  have hy64 := HX.out y hyf
  clear hl1 hyf
  by_cases hy : y = n
  ·subst hy
   have HEF0 : Hid (fitsP fed line (bytesOf s) ats = fitsW fed line ws 0 l1) := by rw [Hid,HFP.out];exact if_pos rfl
   have hne : ((y : Int) != (y : Int)) = false := by simp
   have hm5' : (m : Int) <= 5 := by omega
   go_enter Tryz.func83,Tryz.ntmps83
   go_wp2_with fail
   refine wp_scope_fwd 1 ?_
   go_wp2_with go_step3
   refine (HW.out _).mono ?_
   rintro e w1 ⟨rfl,hb1⟩
   have hb1s := hb1.size
   have hbA : Below W.heap.size W (w1.alloc (.cells #[.int .u64 (f 0 : Nat),.int .u64 (f 1 : Nat),.int .u64 (f 2 : Nat),.int .u64 (f 3 : Nat),.int .u64 (f 4 : Nat)] 190)) := hb1.alloc hb1.size _
   have HC := Lib.hid (reads_val (HL.out _ _ _ hpb (by omega) (HR.out.below hbA).drew') hr1)
   have HB1 := Lib.hid ((RB.of_below hbA HR.out.lt).trans (RB.drew' R W.heap.size _))
   clear hr1 hb1
   go_wp2_with go_step3
   go_region_with (first | (go_at_call 79;refine (HAT.out _).mono ?_;rintro e w2 ⟨rfl,rfl⟩) | (go_at_call 49;refine HC.out.mono ?_;rintro e w2 ⟨rfl,h2,hb2⟩))
   clear HC
   obtain ⟨A,hA⟩ : ∃ A,w1.heap.size = A := ⟨_,rfl⟩
   have hAs : A < (w1.alloc (.cells #[.int .u64 (f 0 : Nat),.int .u64 (f 1 : Nat),.int .u64 (f 2 : Nat),.int .u64 (f 3 : Nat),.int .u64 (f 4 : Nat)] 190)).heap.size := by simp [hA]
   have hFA : FreeAt R (w1.alloc (.cells #[.int .u64 (f 0 : Nat),.int .u64 (f 1 : Nat),.int .u64 (f 2 : Nat),.int .u64 (f 3 : Nat),.int .u64 (f 4 : Nat)] 190)) A := HR.out.free_new hbA (by have := hb1s;omega)
   have hkA := hb2.keep A hAs hFA
   have HCELL : Hid (∀ j,j < 5 -> w2.cell? ⟨A,j,none⟩ = some (.int .u64 (f j : Nat))) := fun j hj => by
    rw [World.cell?_of_block (w := w1.alloc (.cells #[.int .u64 (f 0 : Nat),.int .u64 (f 1 : Nat),.int .u64 (f 2 : Nat),.int .u64 (f 3 : Nat),.int .u64 (f 4 : Nat)] 190)) hkA.1,<- hA]
    match j,hj with
    | 0,_ => exact cell_new w1 _ _ 0 _ rfl
    | 1,_ => exact cell_new w1 _ _ 1 _ rfl
    | 2,_ => exact cell_new w1 _ _ 2 _ rfl
    | 3,_ => exact cell_new w1 _ _ 3 _ rfl
    | 4,_ => exact cell_new w1 _ _ 4 _ rfl
   have hA2 : A + 1 <= w2.heap.size := by have := hb2.size;simp at this;omega
   have HFA2 := Lib.hid hkA.2
   have HR2 := Lib.hid h2
   have HB2 := Lib.hid (HB1.out.trans (hb2.mono (by have := hbA.size;exact this)))
   have hWA : W.heap.size <= A + 1 := by omega
   rw [hA]
   clear h2 hb2 hkA hFA hAs hbA HB1 hA hb1s HFP
   obtain ⟨ll,HLL⟩ : ∃ ll,Hid (l1.length = ll) := ⟨_,rfl⟩
   have hll : ll = ats.length + 1 := by rw [<- HLL.out];exact hlen
   clear hlen
   go_wp2_with fail
   go_loopw [36] (fun i wr => ∃ (j : Nat) (l' : List Nat),j <= m ∧ i = .int .i64 j ∧ RdAt R FA nf cf fed l' wr ∧ RB R (A + 1) w2 wr ∧ Hid (fitsP fed line (bytesOf s) ats = fitsW fed line (ws.drop j) j l') ∧ Hid (l'.length = ll + j)) (fun i _ => m - (intOf i).toNat)
   case atStart => exact ⟨0,l1,Nat.zero_le _,rfl,HR2.out,RB.refl _ _ _,HEF0.out,HLL.out⟩
   case round =>
    obtain ⟨j,l',hj,rfl,hrd,hrb,hef,hlj⟩ := hrel
    by_cases hlt : j < m
    ·have hget := HWL.out j hlt
     have hdrop : ws.drop j = f j :: ws.drop (j + 1) := by
      have hjw : j < ws.length := by rw [HWN.out];exact hlt
      rw [List.drop_eq_getElem_cons hjw]
      rw [List.getElem?_eq_getElem hjw] at hget
      exact congrArg (· :: ws.drop (j + 1)) (Option.some.inj hget)
     have hcj : wr.cell? ⟨A,j,none⟩ = some (.int .u64 (f j : Nat)) := (hrb.cell (Nat.lt_succ_self _) HFA2.out).trans (HCELL.out j (by omega))
     have HEF1 : Hid (fitsP fed line (bytesOf s) ats = (loadP fed (line * 8 + (3 + j)) l').bind fun y ats => if y = f j then fitsW fed line (ws.drop (j + 1)) (j + 1) ats else .val false ats) := by rw [Hid,hef.out,hdrop];rfl
     have hat1 := fun W => at_any line (3 + j) W (by omega)
     have hqq : line * 8 + (3 + j) < 9223372036854775808 := by omega
     obtain ⟨q,hq⟩ : ∃ q,line * 8 + (3 + j) = q := ⟨_,rfl⟩
     rw [hq] at hat1 HEF1 hqq
     have hw3 : IntKind.i64.wrap (3 + (j : Int)) = ((3 + j : Nat) : Int) := by rw [IntWalk.i64_in _ (by omega)];omega
     generalize 3 + j = j3 at *
     have HAT1 := Lib.hid hat1
     have hj0 : (0 : Int) <= (j : Int) := by omega
     have hjm : (j : Int) < (m : Int) := by omega
     have hll' : l'.length <= 100000 := by rw [hlj.out];omega
     have hjn : IntKind.i64.wrap ((j : Int) + 1) = ((j + 1 : Nat) : Int) := by rw [IntWalk.i64_in _ (by omega)];omega
     obtain ⟨x,hx⟩ : ∃ x,f j = x := ⟨_,rfl⟩
     rw [hx] at hcj HEF1
     clear hat1 hget hdrop hx hef hq
     generalize hr2 : loadP fed q l' = r2 at HEF1
     cases r2 with
     | stop o l2 =>
      have HEF : Hid (fitsP fed line (bytesOf s) ats = .stop o l2) := HEF1.out
      have HC2 := Lib.hid (reads_stop (HL.out _ _ _ hqq hll' hrd.drew') hr2)
      have HB3 := Lib.hid ((HB2.out.trans (hrb.mono hWA)).trans (RB.drew' R W.heap.size wr))
      have hsz : W.heap.size <= wr.heap.size := HB3.out.size
      clear hrd hrb HEF1 hr2
      go_wp2_with go_step3
      refine wp_region_any (by kernel_rfl) ?_
      refine wpAny_take (i := 0) (v := ?_) rfl (by kernel_rfl) (by kernel_rfl) (by kernel_rfl) (fun _ _ _ h => h) (Or.inl ⟨by rfl,?_⟩) ?_
      rotate_left
      ·intro w;go_simp;try with_reducible rfl
      refine wpAny_take (i := 1) (v := ?_) rfl (by kernel_rfl) (by kernel_rfl) (by kernel_rfl) (fun _ _ _ h => h) (Or.inl ⟨by rfl,?_⟩) ?_
      rotate_left
      ·intro w;go_simp;try with_reducible rfl
      refine wpAny_take (i := 2) (v := ?_) rfl (by kernel_rfl) (by kernel_rfl) (by kernel_rfl) (fun _ _ _ h => h) (Or.inl ⟨by rfl,?_⟩) ?_
      rotate_left
      ·intro w;go_simp;try with_reducible rfl
      refine wpAny_take (i := 3) (v := ?_) rfl (by kernel_rfl) (by kernel_rfl) (by kernel_rfl) (fun _ _ _ h => h) (Or.inl ⟨by rfl,?_⟩) ?_
      rotate_left
      ·intro w;go_simp;try with_reducible rfl
      refine wpAny_take (i := 4) (v := ?_) rfl (by kernel_rfl) (by kernel_rfl) (by kernel_rfl) (fun _ _ _ h => h) (Or.inl ⟨by rfl,?_⟩) ?_
      rotate_left
      ·intro w;go_simp;try with_reducible rfl
      refine wpAny_take (i := 5) (v := ?_) rfl (by kernel_rfl) (by kernel_rfl) (by kernel_rfl) (fun _ _ _ h => h) (Or.inl ⟨by rfl,?_⟩) ?_
      rotate_left
      ·intro w;go_simp;try with_reducible rfl
      refine wpAny_take (i := 8) (v := ?_) rfl (by kernel_rfl) (by kernel_rfl) (by kernel_rfl) (fun _ _ _ h => h) (Or.inl ⟨by rfl,?_⟩) ?_
      rotate_left
      ·intro w;go_simp;try with_reducible rfl
      refine wpAny_ready (rs := [6]) (by kernel_rfl) (by simp) ?_
      refine AllReady.cons rfl (fun K hK => ?_) AllReady.nil
      go_simp
      refine (HAT1.out _).mono ?_
      rintro e w3 ⟨rfl,rfl⟩
      refine hK _ _ ?_
      clear hK K
      refine wpAny_ready (rs := [7]) (by kernel_rfl) (by simp) ?_
      refine AllReady.cons rfl (fun K hK => ?_) AllReady.nil
      go_simp
      refine HC2.out.mono ?_
      rintro e w3 ⟨rfl,h3,hb3⟩
      exact ⟨rfl,by rw [HEF.out];exact ⟨(endOf_stop _ _ _).symm,h3,HB3.out.trans (hb3.mono hsz)⟩⟩
     | val y2 l2 =>
      obtain ⟨hl2,_⟩ := loadP_val hr2
      have hlen2 : l2.length = ll + (j + 1) := by rw [hl2,List.length_append,hlj.out];simp;omega
      have HC2 := Lib.hid (reads_val (HL.out _ _ _ hqq hll' hrd.drew') hr2)
      have hrb' := hrb.trans (RB.drew' R (A + 1) wr)
      have hsz : A + 1 <= wr.heap.size := by have := hrb.size;omega
      clear hrd hrb hr2 hl2
      by_cases hyx : y2 = x
      ·have HEF2 : Hid (fitsP fed line (bytesOf s) ats = fitsW fed line (ws.drop (j + 1)) (j + 1) l2) := by rw [Hid,HEF1.out];exact if_pos hyx
       subst hyx
       have hne2 : ((y2 : Int) != (y2 : Int)) = false := by simp
       clear HEF1
       go_wp2_with go_step3
       go_region_with (first | (go_at_call 79;refine (HAT1.out _).mono ?_;rintro e w3 ⟨rfl,rfl⟩) | (go_at_call 49;refine HC2.out.mono ?_;rintro e w3 ⟨rfl,h3,hb3⟩))
       go_wp2_with go_step3
       go_roundw
       case rel => exact ⟨j + 1,l2,by omega,rfl,h3,hrb'.trans (hb3.mono hsz),HEF2.out,hlen2⟩
       case measure => simp [intOf];omega
      ·have HEF : Hid (fitsP fed line (bytesOf s) ats = .val false l2) := by rw [Hid,HEF1.out];exact if_neg hyx
       have hne2 : ((y2 : Int) != (x : Int)) = true := by rw [bne_iff_ne];omega
       clear HEF1
       go_wp2_with go_step3
       go_region_with (first | (go_at_call 79;refine (HAT1.out _).mono ?_;rintro e w3 ⟨rfl,rfl⟩) | (go_at_call 49;refine HC2.out.mono ?_;rintro e w3 ⟨rfl,h3,hb3⟩))
       go_wp2_with go_step3
       refine fwd_goto _ rfl ?_
       go_wp2_with go_step3
       refine bodyPost_ret (v := .bool false) (by simp [results,Tryz.results83,go_sem]) rfl ?_
       rw [HEF.out]
       exact ⟨rfl,h3,HB2.out.trans ((hrb'.trans (hb3.mono hsz)).mono hWA)⟩
    ·have hjm : j = m := by omega
     subst hjm
     have HEF : Hid (fitsP fed line (bytesOf s) ats = .val true l') := by
      rw [Hid,hef.out,List.drop_eq_nil_of_le (by rw [HWN.out];omega)];rfl
     have HB3 := Lib.hid (HB2.out.trans (hrb.mono hWA))
     clear hef hrb
     go_wp2_with go_step3
     refine bodyPost_ret (v := .bool true) (by simp [results,Tryz.results83,go_sem]) rfl ?_
     rw [HEF.out]
     exact ⟨rfl,hrd,HB3.out⟩
  ·have HEF : Hid (fitsP fed line (bytesOf s) ats = .val false l1) := by rw [Hid,HFP.out];exact if_neg hy
   have hne : ((y : Int) != (n : Int)) = true := by rw [bne_iff_ne];omega
   go_enter Tryz.func83,Tryz.ntmps83
   go_wp2_with fail
   refine wp_scope_fwd 1 ?_
   go_wp2_with go_step3
   refine (HW.out _).mono ?_
   rintro e w1 ⟨rfl,hb1⟩
   have hbA : Below W.heap.size W (w1.alloc (.cells #[.int .u64 (f 0 : Nat),.int .u64 (f 1 : Nat),.int .u64 (f 2 : Nat),.int .u64 (f 3 : Nat),.int .u64 (f 4 : Nat)] 190)) := hb1.alloc hb1.size _
   have HC := Lib.hid (reads_val (HL.out _ _ _ hpb (by omega) (HR.out.below hbA).drew') hr1)
   have HB1 := Lib.hid ((RB.of_below hbA HR.out.lt).trans (RB.drew' R W.heap.size _))
   clear hr1 hb1
   go_wp2_with go_step3
   go_region_with (first | (go_at_call 79;refine (HAT.out _).mono ?_;rintro e w2 ⟨rfl,rfl⟩) | (go_at_call 49;refine HC.out.mono ?_;rintro e w2 ⟨rfl,h2,hb2⟩))
   go_wp2_with go_step3
   refine fwd_goto _ rfl ?_
   go_wp2_with go_step3
   refine bodyPost_ret (v := .bool false) (by simp [results,Tryz.results83,go_sem]) rfl ?_
   rw [HEF.out]
   exact ⟨rfl,h2,HB1.out.trans (hb2.mono (by have := hbA.size;exact this))⟩
end
section
open Go.RowKit
def roundQ (fed : List Nat) (s : List UInt8) (line : Nat) (ats : List Nat) : Res (Option Nat) :=
 (fitsP fed line s ats).bind fun is ats => if is then ((loadP fed (line * 8 + 1) ats).bind someP).bind fun v ats => .val (some v) ats else .val none ats
def chainQ (fed : List Nat) (s : List UInt8) : Nat -> Nat -> List Nat -> Res (Option Nat)
 | 0,line,ats => if line = 0 then .val none ats else .stop (.err 300) ats
 | fuel + 1,line,ats => if line = 0 then .val none ats else
  (roundQ fed s line ats).bind fun is ats => match is with
   | some v => .val (some v) ats
   | none => ((loadP fed (line * 8 + 0) ats).bind pointerP).bind fun next ats => chainQ fed s fuel next ats
def headQ (fed : List Nat) (s : List UInt8) (head : Nat) (ats : List Nat) : Res (Option Nat) :=
 ((loadP fed head ats).bind pointerP).bind fun line ats => chainQ fed s 1024 line ats
theorem Res.bind_assoc {α β γ : Type} (r : Res α) (g : α -> List Nat -> Res β) (h : β -> List Nat -> Res γ) : (r.bind g).bind h = r.bind fun a l => (g a l).bind h := by
 cases r <;> rfl
theorem someP_ne {x v : Nat} {l l' : List Nat} (h : someP x l = .val v l') : v ≠ 0 ∧ v < 1024 ∧ l' = l := by
 unfold someP pointerP at h
 split at h
 ·cases h
 ·split at h
  ·cases h;exact ⟨by assumption,by assumption,rfl⟩
  ·cases h
theorem pointerP_val {x v : Nat} {l l' : List Nat} (h : pointerP x l = .val v l') : v = x ∧ v < 1024 ∧ l' = l := by
 unfold pointerP at h
 split at h
 ·cases h;exact ⟨rfl,by assumption,rfl⟩
 ·cases h
theorem chainP_eq (fed : List Nat) (s : List UInt8) : ∀ (fuel line : Nat) (ats : List Nat),chainP fed s fuel line ats = (chainQ fed s fuel line ats).bind fun o l => match o with | some v => .val v l | none => .stop (.err 202) l
 | 0,line,ats => by
  rw [chainP,chainQ]
  split <;> rfl
 | fuel + 1,line,ats => by
  rw [chainP,chainQ]
  split
  ·rfl
  ·rw [roundQ,Res.bind_assoc,Res.bind_assoc]
   congr 1
   funext is l
   cases is
   ·simp only [Bool.false_eq_true,if_false]
    show _ = Res.bind (((loadP fed (line * 8 + 0) l).bind pointerP).bind fun next ats => chainQ fed s fuel next ats) _
    rw [Res.bind_assoc,Res.bind_assoc]
    congr 1
    funext x l2
    congr 1
    funext next l3
    exact chainP_eq fed s fuel next l3
   ·simp only [if_true]
    generalize (loadP fed (line * 8 + 1) l).bind someP = r
    cases r <;> rfl
theorem findP_eq (fed : List Nat) (top : Nat) (s : List UInt8) (ats : List Nat) : findP fed top s ats = (headQ fed s (top * 8 + bucketN s) ats).bind fun o l => match o with | some v => .val v l | none => .stop (.err 202) l := by
 rw [findP,headQ,Res.bind_assoc,Res.bind_assoc]
 congr 1
 funext x l
 congr 1
 funext line l2
 exact chainP_eq fed s 1024 line l2
theorem loadP_len {fed : List Nat} {p x : Nat} {l l' : List Nat} (h : loadP fed p l = .val x l') : l'.length <= fed.length := by
 obtain ⟨rfl,_⟩ := loadP_val h
 unfold loadP at h
 split at h
 ·rename_i y hy
  have := (List.getElem?_eq_some_iff.1 hy).1
  simp;omega
 ·cases h
theorem bind_val {α β : Type} {r : Res α} {g : α -> List Nat -> Res β} {b : β} {l : List Nat} (h : r.bind g = .val b l) : ∃ a l',r = .val a l' ∧ g a l' = .val b l := by
 cases r with
 | val a l' => exact ⟨a,l',rfl,h⟩
 | stop o l' => cases h
theorem fitsW_len {fed : List Nat} {line : Nat} : ∀ {ws : List Nat} {k : Nat} {l l' : List Nat} {b : Bool},fitsW fed line ws k l = .val b l' -> l.length <= fed.length -> l'.length <= fed.length
 | [],_,_,_,_,h,hl => by cases h;exact hl
 | x :: ws,k,l,l',b,h,hl => by
  rw [fitsW] at h
  obtain ⟨y,l1,h1,h2⟩ := bind_val h
  have := loadP_len h1
  split at h2
  ·exact fitsW_len h2 this
  ·cases h2;exact this
theorem fitsP_len {fed : List Nat} {line : Nat} {s : List UInt8} {l l' : List Nat} {b : Bool} (h : fitsP fed line s l = .val b l') : l'.length <= fed.length := by
 obtain ⟨y,l1,h1,h2⟩ := bind_val h
 have := loadP_len h1
 split at h2
 ·exact fitsW_len h2 this
 ·cases h2;exact this
theorem roundQ_len {fed : List Nat} {line : Nat} {s : List UInt8} {l l' : List Nat} {o : Option Nat} (h : roundQ fed s line l = .val o l') : l'.length <= fed.length := by
 obtain ⟨b,l1,h1,h2⟩ := bind_val h
 have := fitsP_len h1
 split at h2
 ·obtain ⟨v,l2,h3,h4⟩ := bind_val h2
  obtain ⟨x,l3,h5,h6⟩ := bind_val h3
  have := loadP_len h5
  obtain ⟨_,_,rfl⟩ := someP_ne h6
  cases h4
  exact this
 ·cases h2;exact this
theorem chain_any (R head : Nat) (W : World) :
  Calls Tryz.prog 82 #[.pointer (some ⟨R,0,none⟩),.int .i64 head] W fun e W' =>
   e = .returned (.func (.func 136) #[] #[.pointer (some ⟨W.heap.size,0,none⟩),.pointer (some ⟨W.heap.size + 1,0,none⟩)]) ∧ W' = (W.alloc (.cells #[.pointer (some ⟨R,0,none⟩)] 77)).alloc (.cells #[.int .i64 head] 3) := by
 have hmf : ∀ (fn : Fn) (first cap : Array Value) (w : World),(Instr.makeFunc fn first cap).run Tryz.prog w = .ok (.func fn first cap) w := fun _ _ _ _ => rfl
 go_enter Tryz.func82,Tryz.ntmps82
 go_wp2
 go_ret
 exact ⟨rfl,rfl⟩
end
section
open Go.RowKit
def YPost (G : List Nat -> World -> Prop) (D : Nat -> List Nat -> World -> Prop) (Pn : List Nat -> World -> Prop) (r : Res (Option Nat)) (e : Ending) (W' : World) : Prop :=
 match r with
 | .val none l => e = .returned (.bool true) ∧ G l W'
 | .val (some v) l => e = .returned (.bool false) ∧ D v l W'
 | .stop o l => e = .panicked [outV o] ∧ Pn l W'
def CPost (G : List Nat -> World -> Prop) (D : Nat -> List Nat -> World -> Prop) (Pn : List Nat -> World -> Prop) (r : Res (Option Nat)) (e : Ending) (W' : World) : Prop :=
 match r with
 | .val none l => e = .returned (.tuple #[]) ∧ G l W'
 | .val (some v) l => e = .returned (.tuple #[]) ∧ D v l W'
 | .stop o l => e = .panicked [outV o] ∧ Pn l W'
def ChainAt (R Rb Hb head : Nat) (W : World) : Prop := W.cell? ⟨Rb,0,none⟩ = some (.pointer (some ⟨R,0,none⟩)) ∧ W.cell? ⟨Hb,0,none⟩ = some (.int .i64 head)
variable {R : Nat} {FA : Option Addr} {nf cf : Nat} {fed ats : List Nat}
set_option maxRecDepth 100000 in
set_option maxHeartbeats 8000000 in
theorem chain1_in (l Rb Hb head : Nat) (s : List UInt8) (G : List Nat -> World -> Prop) (D : Nat -> List Nat -> World -> Prop) (Pn : List Nat -> World -> Prop) (W : World)
  (hhead : head < 9223372036854775808) (hl : ats.length <= 100000) (hnf : nf <= 20000) (hx64 : ∀ x ∈ fed,x < 18446744073709551616)
  (hG : ∀ l W,G l W -> RdAt R FA nf cf fed l W ∧ ChainAt R Rb Hb head W)
  (hGk : ∀ l l' W W',G l W -> RdAt R FA nf cf fed l' W' -> RB R W.heap.size W W' -> G l' W')
  (hGp : ∀ l W,G l W -> Pn l W)
  (hY : ∀ line l1 W1,1 <= line -> line < 1024 -> l1.length <= nf -> G l1 W1 -> Yields Tryz.prog l #[.int .i64 (line : Nat)] W1 (YPost G D Pn (roundQ fed s line l1)))
  (h0 : G ats W) :
  Calls Tryz.prog 136 #[.func (.yield l) #[] #[],.pointer (some ⟨Rb,0,none⟩),.pointer (some ⟨Hb,0,none⟩)] W (CPost G D Pn (headQ fed s head ats)) := by
 have HL := Lib.hid (fun (p : Nat) (ats : List Nat) (W : World) (hp : p < 9223372036854775808) (hl : ats.length <= 100000) (h : RdAt R FA nf cf fed ats W) => loadTo p W hp hl (by omega) hx64 h)
 have HG := Lib.hid hG
 have HGK := Lib.hid hGk
 have HGP := Lib.hid hGp
 have HY := Lib.hid hY
 have HX := Lib.hid hx64
 have H0 := Lib.hid h0
 obtain ⟨hrd,hc1,hc2⟩ := hG _ _ h0
 have HR := Lib.hid hrd
 have HQ : Hid (headQ fed s head ats = ((loadP fed head ats).bind pointerP).bind fun line ats => chainQ fed s 1024 line ats) := rfl
 have HPT := Lib.hid (fun x W l hx => pointerTo x W hx l)
 have hfl : fed.length = nf := hrd.fedl
 clear hG hGk hGp hY hx64 h0 hrd
 generalize hr1 : loadP fed head ats = r1 at HQ
 cases r1 with
 | stop o l1 =>
  have HQ' : Hid (headQ fed s head ats = .stop o l1) := HQ.out
  have HC := Lib.hid (reads_stop (HL.out _ _ _ hhead hl HR.out.drew') hr1)
  clear hr1 HQ
  refine (callsIn_wide (n := 10)).1 ?_
  refine callsIn_of_wp Tryz.func136 rfl trivial ?_ rfl
  simp only [Tryz.ntmps136,List.size_toArray,List.length_cons,List.length_nil,Nat.reduceAdd,Nat.reduceSub,Array.replicate_succ,Array.replicate_zero,List.push_toArray,List.append_toArray,List.nil_append,List.cons_append]
  gi_wp2
  refine wpIn_wide.2 ?_
  refine box_tail 4 (by kernel_rfl) (by kernel_rfl) ?_
  simp only [List.take_succ_cons,List.take_zero,List.drop_succ_cons,List.drop_zero]
  iterate 4
   refine box_step (fun K hK => ?_)
   go_simp
   refine hK _ ?_
   clear hK K
  refine ⟨wpStill_nil ?_⟩
  go_wp2_with (go_at_call 49;refine HC.out.mono ?_;rintro e w2 ⟨rfl,h2,hb2⟩)
  exact ⟨rfl,by rw [HQ'.out];exact ⟨rfl,HGP.out _ _ (HGK.out _ _ _ _ H0.out h2 ((RB.drew' R W.heap.size W).trans hb2))⟩⟩
 | val x l1 =>
  obtain ⟨_,hxf⟩ := loadP_val hr1
  have hx := HX.out x hxf
  have hlen := loadP_len hr1
  rw [hfl] at hlen
  have HC := Lib.hid (reads_val (HL.out _ _ _ hhead hl HR.out.drew') hr1)
  have HQ1 : Hid (headQ fed s head ats = (pointerP x l1).bind fun line ats => chainQ fed s 1024 line ats) := HQ.out
  clear hr1 HQ hxf
  generalize hr2 : pointerP x l1 = r2 at HQ1
  have hpt := fun W => HPT.out x W l1 hx
  rw [hr2] at hpt
  cases r2 with
  | stop o l2 =>
   have HQ' : Hid (headQ fed s head ats = .stop o l2) := HQ1.out
   have hl2 : l2 = l1 := by
    unfold pointerP at hr2
    split at hr2
    ·cases hr2
    ·cases hr2;rfl
   subst hl2
   have HPP : Hid (∀ W,Calls Tryz.prog 78 #[.int .u64 (x : Nat)] W fun e W' => e = .panicked [outV o] ∧ W' = W) := fun W => (hpt W).mono fun e w h => ⟨h.1.trans (endOf_stop _ _ _),h.2⟩
   clear hr2 HQ1 hpt
   refine (callsIn_wide (n := 10)).1 ?_
   refine callsIn_of_wp Tryz.func136 rfl trivial ?_ rfl
   simp only [Tryz.ntmps136,List.size_toArray,List.length_cons,List.length_nil,Nat.reduceAdd,Nat.reduceSub,Array.replicate_succ,Array.replicate_zero,List.push_toArray,List.append_toArray,List.nil_append,List.cons_append]
   gi_wp2
   refine wpIn_wide.2 ?_
   refine box_tail 4 (by kernel_rfl) (by kernel_rfl) ?_
   simp only [List.take_succ_cons,List.take_zero,List.drop_succ_cons,List.drop_zero]
   iterate 4
    refine box_step (fun K hK => ?_)
    go_simp
    refine hK _ ?_
    clear hK K
   refine ⟨wpStill_nil ?_⟩
   go_wp2_with (first | (go_at_call 49;refine HC.out.mono ?_;rintro e w2 ⟨rfl,h2,hb2⟩) | (go_at_call 78;refine (HPP.out _).mono ?_;rintro e w3 ⟨rfl,rfl⟩))
   exact ⟨rfl,by rw [HQ'.out];exact ⟨rfl,HGP.out _ _ (HGK.out _ _ _ _ H0.out h2 ((RB.drew' R W.heap.size W).trans hb2))⟩⟩
  | val y l2 =>
   obtain ⟨rfl,hy,rfl⟩ := pointerP_val hr2
   have HQ' : Hid (headQ fed s head ats = chainQ fed s 1024 y l2) := HQ1.out
   have HPP : Hid (∀ W,Calls Tryz.prog 78 #[.int .u64 (y : Nat)] W fun e W' => e = .returned (.int .i64 (y : Nat)) ∧ W' = W) := hpt
   clear hr2 HQ1 hpt
   refine (callsIn_wide (n := 10)).1 ?_
   refine callsIn_of_wp Tryz.func136 rfl trivial ?_ rfl
   simp only [Tryz.ntmps136,List.size_toArray,List.length_cons,List.length_nil,Nat.reduceAdd,Nat.reduceSub,Array.replicate_succ,Array.replicate_zero,List.push_toArray,List.append_toArray,List.nil_append,List.cons_append]
   gi_wp2
   refine wpIn_wide.2 ?_
   refine box_tail 4 (by kernel_rfl) (by kernel_rfl) ?_
   simp only [List.take_succ_cons,List.take_zero,List.drop_succ_cons,List.drop_zero]
   iterate 4
    refine box_step (fun K hK => ?_)
    go_simp
    refine hK _ ?_
    clear hK K
   refine ⟨wpStill_nil ?_⟩
   go_wp2_with (first | (go_at_call 49;refine HC.out.mono ?_;rintro e w2 ⟨rfl,h2,hb2⟩) | (go_at_call 78;refine (HPP.out _).mono ?_;rintro e w3 ⟨rfl,rfl⟩))
   have HG2 := Lib.hid (HGK.out _ _ _ _ H0.out h2 ((RB.drew' R W.heap.size W).trans hb2))
   clear h2 hb2 HC HPP
   gi_wp2
   gi_loopw [4,5] (fun many line wr => ∃ (m ln : Nat) (l' : List Nat),m <= 1024 ∧ many = .int .i64 m ∧ line = .int .i64 ln ∧ ln < 1024 ∧ l'.length <= nf ∧ G l' wr ∧ Hid (headQ fed s head ats = chainQ fed s (1024 - m) ln l')) (fun many _ _ => 1025 - (intOf many).toNat)
   case atStart => exact ⟨0,y,l2,Nat.zero_le _,rfl,rfl,hy,hlen,HG2.out,HQ'.out⟩
   case round =>
    obtain ⟨m,ln,l',hm,rfl,rfl,hln,hl',hg,hq⟩ := hrel
    by_cases hz : ln = 0
    ·subst hz
     have HQ2 : Hid (headQ fed s head ats = .val none l') := by
      rw [Hid,hq.out]
      cases 1024 - m <;> simp [chainQ]
     gi_wp2
     go_end0
     rw [HQ2.out]
     exact ⟨rfl,hg⟩
    ·have hne : ((ln : Int) != 0) = true := by rw [bne_iff_ne];omega
     by_cases hm2 : m = 1024
     ·subst hm2
      have HQ2 : Hid (headQ fed s head ats = .stop (.err 300) l') := by
       rw [Hid,hq.out,Nat.sub_self,chainQ,if_neg hz]
      have HMU := Lib.hid (fun W => must_any false 300 W)
      gi_wp2_with (refine And.intro trivial ?_;gi_at_call 51;refine callsIn_wide.2 ((HMU.out _).mono ?_);rintro e w3 ⟨rfl,rfl⟩)
      exact ⟨rfl,by rw [HQ2.out];exact ⟨rfl,HGP.out _ _ hg⟩⟩
     ·obtain ⟨k,hk⟩ : ∃ k,1024 - m = k + 1 := ⟨1023 - m,by omega⟩
      have hk2 : 1024 - (m + 1) = k := by omega
      have HQ2 : Hid (headQ fed s head ats = (roundQ fed s ln l').bind fun is ats => match is with | some v => .val (some v) ats | none => ((loadP fed (ln * 8 + 0) ats).bind pointerP).bind fun next ats => chainQ fed s k next ats) := by
       rw [Hid,hq.out,hk,chainQ,if_neg hz]
       all_goals (rcases roundQ fed s ln l' with ⟨_ | _,_⟩ | _ <;> rfl)
      have HMU := Lib.hid (fun W => must_any true 300 W)
      have hmi : (m : Int) < 1024 := by omega
      have hm1 : IntKind.i64.wrap ((m : Int) + 1) = ((m + 1 : Nat) : Int) := by rw [IntWalk.i64_in _ (by omega)];omega
      have hyy := HY.out ln l' wr (by omega) hln hl' hg
      clear hq
      generalize hr3 : roundQ fed s ln l' = r3 at HQ2 hyy
      cases r3 with
      | stop o l3 =>
       have HQ3 : Hid (headQ fed s head ats = .stop o l3) := HQ2.out
       clear HQ2 hr3
       obtain ⟨fn,tmps,assign,body,hy,hR⟩ := hyy
       gi_wp2_with (refine And.intro trivial ?_;gi_at_call 51;refine callsIn_wide.2 ((HMU.out _).mono ?_);rintro e w3 ⟨rfl,rfl⟩)
       refine (hR _).mono ?_
       rintro e W3 ⟨rfl,hp⟩
       gi_wp2
       exact ⟨rfl,by rw [HQ3.out];exact ⟨rfl,hp⟩⟩
      | val ov l3 =>
       cases ov with
       | some v =>
        have HQ3 : Hid (headQ fed s head ats = .val (some v) l3) := HQ2.out
        clear HQ2 hr3
        obtain ⟨fn,tmps,assign,body,hy,hR⟩ := hyy
        gi_wp2_with (refine And.intro trivial ?_;gi_at_call 51;refine callsIn_wide.2 ((HMU.out _).mono ?_);rintro e w3 ⟨rfl,rfl⟩)
        refine (hR _).mono ?_
        rintro e W3 ⟨rfl,hp⟩
        gi_wp2
        refine bodyPost_ret (results_none rfl _ _ _) rfl ?_
        rw [HQ3.out]
        exact ⟨rfl,hp⟩
       | none =>
        have hlen3 := roundQ_len hr3
        rw [hfl] at hlen3
        have HQ3 : Hid (headQ fed s head ats = ((loadP fed (ln * 8 + 0) l3).bind pointerP).bind fun next ats => chainQ fed s k next ats) := HQ2.out
        clear HQ2 hr3 hg
        obtain ⟨fn,tmps,assign,body,hy,hR⟩ := hyy
        gi_wp2_with (refine And.intro trivial ?_;gi_at_call 51;refine callsIn_wide.2 ((HMU.out _).mono ?_);rintro e w3 ⟨rfl,rfl⟩)
        refine (hR _).mono ?_
        rintro e W3 ⟨rfl,hg3⟩
        obtain ⟨hrd3,hc3,hd3⟩ := HG.out _ _ hg3
        have hat := fun W => at_any ln 0 W (by omega)
        have hqb : ln * 8 + 0 < 9223372036854775808 := by omega
        obtain ⟨q,hqq⟩ : ∃ q,ln * 8 + 0 = q := ⟨_,rfl⟩
        rw [hqq] at hat hqb HQ3
        have HAT := Lib.hid hat
        have HL3 := HL.out q l3 _ hqb (by omega) hrd3.drew'
        have HG3 := Lib.hid hg3
        clear hat hqq hg3 hR hy
        generalize hr4 : loadP fed q l3 = r4 at HQ3
        cases r4 with
        | stop o l4 =>
         have HQ4 : Hid (headQ fed s head ats = .stop o l4) := HQ3.out
         have HC := Lib.hid (reads_stop HL3 hr4)
         clear hr4 HQ3 HL3 hrd3
         gi_wp2
         refine wpIn_wide.2 ?_
         refine box_tail 5 (by kernel_rfl) (by kernel_rfl) ?_
         simp only [List.take_succ_cons,List.take_zero,List.drop_succ_cons,List.drop_zero]
         iterate 4
          refine box_step (fun K hK => ?_)
          go_simp
          refine hK _ ?_
          clear hK K
         refine box_step (fun K hK => ?_)
         go_simp
         refine ⟨_,HAT.out _,hK _ ?_⟩
         clear hK K
         refine ⟨wpStill_nil ?_⟩
         go_wp2_with (go_at_call 49;refine HC.out.mono ?_;rintro e w4 ⟨rfl,h4,hb4⟩)
         exact ⟨rfl,by rw [HQ4.out];exact ⟨rfl,HGP.out _ _ (HGK.out _ _ _ _ HG3.out h4 ((RB.drew' R _ W3).trans hb4))⟩⟩
        | val x4 l4 =>
         obtain ⟨_,hxf4⟩ := loadP_val hr4
         have hx4 := HX.out x4 hxf4
         have hlen4 := loadP_len hr4
         rw [hfl] at hlen4
         have HC := Lib.hid (reads_val HL3 hr4)
         have HQ4 : Hid (headQ fed s head ats = (pointerP x4 l4).bind fun line ats => chainQ fed s k line ats) := HQ3.out
         have hpt := fun W => HPT.out x4 W l4 hx4
         clear hr4 HQ3 hxf4 HL3 hrd3
         generalize hr5 : pointerP x4 l4 = r5 at HQ4 hpt
         cases r5 with
         | stop o l5 =>
          have HQ5 : Hid (headQ fed s head ats = .stop o l5) := HQ4.out
          have hl5 : l5 = l4 := by
           unfold pointerP at hr5
           split at hr5
           ·cases hr5
           ·cases hr5;rfl
          subst hl5
          have HPP : Hid (∀ W,Calls Tryz.prog 78 #[.int .u64 (x4 : Nat)] W fun e W' => e = .panicked [outV o] ∧ W' = W) := fun W => (hpt W).mono fun e w h => ⟨h.1.trans (endOf_stop _ _ _),h.2⟩
          clear hr5 HQ4 hpt
          gi_wp2
          refine wpIn_wide.2 ?_
          refine box_tail 5 (by kernel_rfl) (by kernel_rfl) ?_
          simp only [List.take_succ_cons,List.take_zero,List.drop_succ_cons,List.drop_zero]
          iterate 4
           refine box_step (fun K hK => ?_)
           go_simp
           refine hK _ ?_
           clear hK K
          refine box_step (fun K hK => ?_)
          go_simp
          refine ⟨_,HAT.out _,hK _ ?_⟩
          clear hK K
          refine ⟨wpStill_nil ?_⟩
          go_wp2_with (first | (go_at_call 49;refine HC.out.mono ?_;rintro e w4 ⟨rfl,h4,hb4⟩) | (go_at_call 78;refine (HPP.out _).mono ?_;rintro e w5 ⟨rfl,rfl⟩))
          exact ⟨rfl,by rw [HQ5.out];exact ⟨rfl,HGP.out _ _ (HGK.out _ _ _ _ HG3.out h4 ((RB.drew' R _ W3).trans hb4))⟩⟩
         | val y5 l5 =>
          obtain ⟨rfl,hy5,rfl⟩ := pointerP_val hr5
          have HQ5 : Hid (headQ fed s head ats = chainQ fed s k y5 l5) := HQ4.out
          have HPP : Hid (∀ W,Calls Tryz.prog 78 #[.int .u64 (y5 : Nat)] W fun e W' => e = .returned (.int .i64 (y5 : Nat)) ∧ W' = W) := hpt
          clear hr5 HQ4 hpt
          gi_wp2
          refine wpIn_wide.2 ?_
          refine box_tail 5 (by kernel_rfl) (by kernel_rfl) ?_
          simp only [List.take_succ_cons,List.take_zero,List.drop_succ_cons,List.drop_zero]
          iterate 4
           refine box_step (fun K hK => ?_)
           go_simp
           refine hK _ ?_
           clear hK K
          refine box_step (fun K hK => ?_)
          go_simp
          refine ⟨_,HAT.out _,hK _ ?_⟩
          clear hK K
          refine ⟨wpStill_nil ?_⟩
          go_wp2_with (first | (go_at_call 49;refine HC.out.mono ?_;rintro e w4 ⟨rfl,h4,hb4⟩) | (go_at_call 78;refine (HPP.out _).mono ?_;rintro e w5 ⟨rfl,rfl⟩))
          have HG5 := Lib.hid (HGK.out _ _ _ _ HG3.out h4 ((RB.drew' R _ W3).trans hb4))
          clear h4 hb4
          gi_wp2
          go_roundw
          case rel => exact ⟨m + 1,y5,l5,by omega,rfl,rfl,hy5,hlen4,HG5.out,by rw [hk2];exact HQ5.out⟩
          case measure => simp [intOf];omega
end
end Go.Proofs.YtdpooagnbmpinaaGreatDoor
