import Derived.Test.YtdpooagnbmpinaaGreatDoorZGG
import Derived.Test.YtdpooagnbmpinaaGreatDoorZG4
import Derived.Test.YtdpooagnbmpinaaGreatDoorZKB
namespace Go.Proofs.YtdpooagnbmpinaaGreatDoor
section
open Go.RowKit
def outV : Out -> PanicEntry
 | .need p => needV p
 | .err c => errV c
theorem endOf_stop {α : Type} (enc : α -> Value) (o : Out) (l : List Nat) : endOf enc (.stop o l) = .panicked [outV o] := by cases o <;> rfl
section
variable {α : Type} {R : Nat} {FA : Option Addr} {nf cf : Nat} {fed : List Nat} {f : FuncId} {args : Array Value} {W : World} {enc : α -> Value} {r : Res α}
theorem reads_val (h : Calls Tryz.prog f args W (ReadsTo R FA nf cf fed W enc r)) {a : α} {l : List Nat} (hr : r = .val a l) :
  Calls Tryz.prog f args W fun e W' => e = .returned (enc a) ∧ RdAt R FA nf cf fed l W' ∧ RB R W.heap.size W W' := by subst hr;exact h
theorem reads_stop (h : Calls Tryz.prog f args W (ReadsTo R FA nf cf fed W enc r)) {o : Out} {l : List Nat} (hr : r = .stop o l) :
  Calls Tryz.prog f args W fun e W' => e = .panicked [outV o] ∧ RdAt R FA nf cf fed l W' ∧ RB R W.heap.size W W' := by
 subst hr
 refine h.mono ?_
 rintro e W' ⟨he,h1,h2⟩
 exact ⟨by rw [he,endOf_stop],h1,h2⟩
end
variable {R : Nat} {FA : Option Addr} {nf cf : Nat} {fed ats : List Nat}
theorem loadP_val {p x : Nat} {l : List Nat} (h : loadP fed p ats = .val x l) : l = ats ++ [p] ∧ x ∈ fed := by
 unfold loadP at h
 split at h
 ·rename_i y hy
  cases h
  exact ⟨rfl,List.mem_of_getElem? hy⟩
 ·cases h
def encNd (n : Nat × Nat × Nat) : Value := encN n.1 n.2.1 n.2.2
theorem FreeAt.set {W : World} {b B i : Nat} {v : Value} (h : FreeAt R W b) (hne : B ≠ R) : FreeAt R (W.setCell ⟨B,i,none⟩ v) b :=
 ⟨h.1,fun u hu => h.2 u (by rwa [World.cell?_setCell_other _ _ _ _ (by intro e;injection e with e;exact hne e)] at hu)⟩
theorem RdAt.set {W : World} {B i : Nat} {v : Value} (h : RdAt R FA nf cf fed ats W) (hf : FreeAt R W B) (hR : R <= B := by omega) : RdAt R FA nf cf fed ats (W.setCell ⟨B,i,none⟩ v) := by
 have hot : ∀ b j,b ≠ B -> (W.setCell ⟨B,i,none⟩ v).cell? ⟨b,j,none⟩ = W.cell? ⟨b,j,none⟩ := fun b j hb => World.cell?_setCell_other _ _ _ _ (by intro e;injection e with e;exact hb e.symm)
 obtain ⟨u,hu,ho⟩ := h.atsv
 refine ⟨by simpa [World.setCell] using h.lt,(hot R 0 (Ne.symm hf.1)).trans h.fedc,h.fedl,fun hn => ?_,h.feda,⟨u,(hot R 1 (Ne.symm hf.1)).trans hu,ho.kept (grown_set W ⟨B,i,none⟩ v) (.inr (hf.2 u hu))⟩,(World.frozen?_setCell _ _ _ _).trans h.frz⟩
 obtain ⟨b,off,e,hb,hc⟩ := h.fedr hn
 have := h.feda (by rw [List.length_map] at hn;exact hn) b off e
 exact ⟨b,off,e,by simpa [World.setCell] using hb,fun k w hw => (hot b _ (by omega)).trans (hc k w hw)⟩
theorem RB.set {W0 W : World} {n b i : Nat} {v : Value} (h : RB R n W0 W) (hn : n <= b) (hne : b ≠ R) : RB R n W0 (W.setCell ⟨b,i,none⟩ v) :=
 ⟨h.os,h.tape,h.output,by simpa [World.setCell] using h.size,fun k hk hf => ⟨(Below.heap_setCell W ⟨b,i,none⟩ v k (by show k ≠ b;omega)).trans (h.keep k hk hf).1,(h.keep k hk hf).2.set hne⟩⟩
theorem RdAt.drew' {W : World} (h : RdAt R FA nf cf fed ats W) : RdAt R FA nf cf fed ats { W with drawn := W.drawn + 1 } := h.below ((Below.refl _ W).drew)
theorem RB.drew' (R B : Nat) (W : World) : RB R B W { W with drawn := W.drawn + 1 } := ⟨rfl,rfl,rfl,Nat.le_refl _,fun _ _ h => ⟨rfl,h⟩⟩
set_option maxRecDepth 100000 in
set_option maxHeartbeats 4000000 in
theorem enter_any (line : Nat) (W : World) (hline : line <= 100000) (hl : ats.length + 2 <= 100000) (hnf : nf <= 100000) (hx64 : ∀ x ∈ fed,x < 18446744073709551616) (h : RdAt R FA nf cf fed ats W) :
  Calls Tryz.prog 50 #[.pointer (some ⟨R,0,none⟩),.int .i64 line] W (ReadsTo R FA nf cf fed W encNd (enterP fed line ats)) := by
 have HL := Lib.hid (fun (p : Nat) (ats : List Nat) (W : World) (hp : p < 9223372036854775808) (hl : ats.length <= 100000) (h : RdAt R FA nf cf fed ats W) => loadTo p W hp hl hnf hx64 h)
 have hat0 := fun W => at_any line 0 W (by omega)
 have hat1 := fun W => at_any line 1 W (by omega)
 have HE0 : Hid (enterP fed line ats = (loadP fed (line * 8 + 0) ats).bind fun k ats => (loadP fed (line * 8 + 1) ats).bind fun t ats => match nodeP k t with | some n => .val n ats | none => .stop (.err 300) ats) := rfl
 obtain ⟨p,hp⟩ : ∃ p,line * 8 + 0 = p := ⟨_,rfl⟩
 obtain ⟨q,hq⟩ : ∃ q,line * 8 + 1 = q := ⟨_,rfl⟩
 rw [hp] at hat0 HE0
 rw [hq] at hat1 HE0
 have hpb : p < 9223372036854775808 := by omega
 have hqb : q < 9223372036854775808 := by omega
 have HAT0 := Lib.hid hat0
 have HAT1 := Lib.hid hat1
 have HX := Lib.hid hx64
 have hb1 : Below W.heap.size W (W.alloc (.cells #[.int .i64 0,.int .i64 0,.int .i64 0] 46)) := (Below.refl _ _).alloc (Nat.le_refl _) _
 have HR1 := Lib.hid (h.below hb1).drew'
 have HFB := Lib.hid (h.free_new hb1 (Nat.le_refl _))
 have HB1 := Lib.hid ((RB.of_below hb1 h.lt).trans (RB.drew' R W.heap.size _))
 have hRB : R <= W.heap.size := Nat.le_of_lt h.lt
 clear h hb1 hx64 hat0 hat1 hp hq
 generalize hr1 : loadP fed p ats = r1 at HE0
 cases r1 with
 | stop o l =>
  have HC := Lib.hid (reads_stop (HL.out _ _ _ hpb (by omega) HR1.out) hr1)
  have HEF : Hid (enterP fed line ats = .stop o l) := HE0.out
  clear hr1 HE0
  go_enter Tryz.func50,Tryz.ntmps50
  go_wp2_with fail
  refine box_tail 5 (by kernel_rfl) (by kernel_rfl) ?_
  simp only [List.take_succ_cons,List.take_zero,List.drop_succ_cons,List.drop_zero]
  iterate 4
   refine box_step (fun K hK => ?_)
   go_simp
   refine hK _ ?_
   clear hK K
  refine box_step (fun K hK => ?_)
  go_simp
  refine ⟨_,HAT0.out _,hK _ ?_⟩
  clear hK K
  refine ⟨wpStill_nil ?_⟩
  go_wp2_with (go_at_call 49;refine HC.out.mono ?_;rintro e w2 ⟨rfl,h2,hb2⟩)
  exact ⟨rfl,by rw [HEF.out];exact ⟨(endOf_stop _ _ _).symm,h2,HB1.out.trans (hb2.mono (by simp))⟩⟩
 | val k l =>
  obtain ⟨hl1,hkf⟩ := loadP_val hr1
  have hlen : l.length = ats.length + 1 := by rw [hl1,List.length_append];rfl
  have hk64 := HX.out k hkf
  have HC := Lib.hid (reads_val (HL.out _ _ _ hpb (by omega) HR1.out) hr1)
  have HE1 : Hid (enterP fed line ats = (loadP fed q l).bind fun t ats => match nodeP k t with | some n => .val n ats | none => .stop (.err 300) ats) := HE0.out
  clear hr1 HE0 hl1 hkf
  generalize hr2 : loadP fed q l = r2 at HE1
  cases r2 with
  | stop o l2 =>
   have HEF : Hid (enterP fed line ats = .stop o l2) := HE1.out
   clear HE1
   go_enter Tryz.func50,Tryz.ntmps50
   go_wp2_with fail
   refine box_tail 5 (by kernel_rfl) (by kernel_rfl) ?_
   simp only [List.take_succ_cons,List.take_zero,List.drop_succ_cons,List.drop_zero]
   iterate 4
    refine box_step (fun K hK => ?_)
    go_simp
    refine hK _ ?_
    clear hK K
   refine box_step (fun K hK => ?_)
   go_simp
   refine ⟨_,HAT0.out _,hK _ ?_⟩
   clear hK K
   refine ⟨wpStill_nil ?_⟩
   go_wp2_with (go_at_call 49;refine HC.out.mono ?_;rintro e w2 ⟨rfl,h2,hb2⟩)
   have HB2 := Lib.hid (HB1.out.trans (hb2.mono (by simp)))
   have HC2 := Lib.hid (reads_stop (HL.out _ _ _ hqb (by omega) h2.drew') hr2)
   clear h2 hb2 hr2
   go_wp2_with fail
   refine box_tail 5 (by kernel_rfl) (by kernel_rfl) ?_
   simp only [List.take_succ_cons,List.take_zero,List.drop_succ_cons,List.drop_zero]
   iterate 4
    refine box_step (fun K hK => ?_)
    go_simp
    refine hK _ ?_
    clear hK K
   refine box_step (fun K hK => ?_)
   go_simp
   refine ⟨_,HAT1.out _,hK _ ?_⟩
   clear hK K
   refine ⟨wpStill_nil ?_⟩
   go_wp2_with (go_at_call 49;refine HC2.out.mono ?_;rintro e w3 ⟨rfl,h3,hb3⟩)
   exact ⟨rfl,by rw [HEF.out];exact ⟨(endOf_stop _ _ _).symm,h3,(HB2.out.trans (RB.drew' _ _ _)).trans (hb3.mono HB2.out.size)⟩⟩
  | val t l2 =>
   obtain ⟨hl2,htf⟩ := loadP_val hr2
   have ht64 := HX.out t htf
   have HEF : Hid (enterP fed line ats = match nodeP k t with | some n => .val n l2 | none => .stop (.err 300) l2) := HE1.out
   have hGI := fun W => getInode_any k t W hk64 ht64
   clear HE1 hl2 htf
   unfold nodeOut at hGI
   cases hnp : nodeP k t with
   | none =>
    rw [hnp] at HEF
    simp only [hnp] at hGI
    have HGI := Lib.hid hGI
    have HMU := Lib.hid (fun W => must_any false 300 W)
    clear hGI hnp
    unfold encLn encN at HGI
    go_enter Tryz.func50,Tryz.ntmps50
    go_wp2_with fail
    refine box_tail 5 (by kernel_rfl) (by kernel_rfl) ?_
    simp only [List.take_succ_cons,List.take_zero,List.drop_succ_cons,List.drop_zero]
    iterate 4
     refine box_step (fun K hK => ?_)
     go_simp
     refine hK _ ?_
     clear hK K
    refine box_step (fun K hK => ?_)
    go_simp
    refine ⟨_,HAT0.out _,hK _ ?_⟩
    clear hK K
    refine ⟨wpStill_nil ?_⟩
    go_wp2_with (go_at_call 49;refine HC.out.mono ?_;rintro e w2 ⟨rfl,h2,hb2⟩)
    have HB2 := Lib.hid (HB1.out.trans (hb2.mono (by simp)))
    have HC2 := Lib.hid (reads_val (HL.out _ _ _ hqb (by omega) h2.drew') hr2)
    clear h2 hb2 hr2
    go_wp2_with fail
    refine box_tail 5 (by kernel_rfl) (by kernel_rfl) ?_
    simp only [List.take_succ_cons,List.take_zero,List.drop_succ_cons,List.drop_zero]
    iterate 4
     refine box_step (fun K hK => ?_)
     go_simp
     refine hK _ ?_
     clear hK K
    refine box_step (fun K hK => ?_)
    go_simp
    refine ⟨_,HAT1.out _,hK _ ?_⟩
    clear hK K
    refine ⟨wpStill_nil ?_⟩
    go_wp2_with (go_at_call 49;refine HC2.out.mono ?_;rintro e w3 ⟨rfl,h3,hb3⟩)
    have HB3 := Lib.hid ((HB2.out.trans (RB.drew' _ _ _)).trans (hb3.mono HB2.out.size))
    have HR3 := Lib.hid h3
    clear h3 hb3
    go_wp2_with (first | (go_at_call 80;refine (HGI.out _).mono ?_;rintro e w4 ⟨rfl,hb4⟩) | (go_at_call 51;refine (HMU.out _).mono ?_;rintro e w5 ⟨rfl,rfl⟩))
    have hb5 : Below w3.heap.size w3 (w4.alloc (.cells #[.int .i64 0,.int .i64 0,.int .i64 0] 46)) := hb4.alloc hb4.size _
    exact ⟨rfl,by rw [HEF.out];exact ⟨rfl,HR3.out.below hb5,HB3.out.trans ((RB.of_below hb5 HR3.out.lt).mono HB3.out.size)⟩⟩
   | some n =>
    rw [hnp] at HEF
    simp only [hnp] at hGI
    have HGI := Lib.hid hGI
    have HMU := Lib.hid (fun W => must_any true 300 W)
    obtain ⟨a,b,c⟩ := n
    clear hGI hnp
    unfold encLn encN at HGI
    have HA := Lib.hid (show Arr3 { W.alloc (.cells #[.int .i64 0,.int .i64 0,.int .i64 0] 46) with drawn := (W.alloc (.cells #[.int .i64 0,.int .i64 0,.int .i64 0] 46)).drawn + 1 } W.heap.size 0 0 0 from ⟨⟨cell_new W _ _ 0 _ rfl,cell_new W _ _ 1 _ rfl,cell_new W _ _ 2 _ rfl⟩,fun i => (World.frozen?_of_block (w := W.alloc (.cells #[.int .i64 0,.int .i64 0,.int .i64 0] 46)) rfl).trans (by simp)⟩)
    go_enter Tryz.func50,Tryz.ntmps50
    go_wp2_with fail
    refine box_tail 5 (by kernel_rfl) (by kernel_rfl) ?_
    simp only [List.take_succ_cons,List.take_zero,List.drop_succ_cons,List.drop_zero]
    iterate 4
     refine box_step (fun K hK => ?_)
     go_simp
     refine hK _ ?_
     clear hK K
    refine box_step (fun K hK => ?_)
    go_simp
    refine ⟨_,HAT0.out _,hK _ ?_⟩
    clear hK K
    refine ⟨wpStill_nil ?_⟩
    go_wp2_with (go_at_call 49;refine HC.out.mono ?_;rintro e w2 ⟨rfl,h2,hb2⟩)
    have HB2 := Lib.hid (HB1.out.trans (hb2.mono (by simp)))
    have HB2' := Lib.hid (hb2.mono (B' := W.heap.size + 1) (by simp))
    have HC2 := Lib.hid (reads_val (HL.out _ _ _ hqb (by omega) h2.drew') hr2)
    clear h2 hb2 hr2
    go_wp2_with fail
    refine box_tail 5 (by kernel_rfl) (by kernel_rfl) ?_
    simp only [List.take_succ_cons,List.take_zero,List.drop_succ_cons,List.drop_zero]
    iterate 4
     refine box_step (fun K hK => ?_)
     go_simp
     refine hK _ ?_
     clear hK K
    refine box_step (fun K hK => ?_)
    go_simp
    refine ⟨_,HAT1.out _,hK _ ?_⟩
    clear hK K
    refine ⟨wpStill_nil ?_⟩
    go_wp2_with (go_at_call 49;refine HC2.out.mono ?_;rintro e w3 ⟨rfl,h3,hb3⟩)
    have hs2 := HB2'.out.size
    simp at hs2
    have HB3 := Lib.hid ((HB2.out.trans (RB.drew' _ _ _)).trans (hb3.mono HB2.out.size))
    have HB3' := Lib.hid ((HB2'.out.trans (RB.drew' _ _ _)).trans (hb3.mono hs2))
    have HR3 := Lib.hid h3
    clear h3 hb3
    go_wp2_with (go_at_call 80;refine (HGI.out _).mono ?_;rintro e w4 ⟨rfl,hb4⟩)
    have hb5 : Below w3.heap.size w3 (w4.alloc (.cells #[.int .i64 a,.int .i64 b,.int .i64 c] 46)) := hb4.alloc hb4.size _
    obtain ⟨W5,hW5⟩ : ∃ W5,w4.alloc (.cells #[.int .i64 a,.int .i64 b,.int .i64 c] 46) = W5 := ⟨_,rfl⟩
    have n0 : W5.cell? ⟨w4.heap.size,0,none⟩ = some (.int .i64 a) := by rw [<- hW5];exact cell_new w4 _ _ 0 _ rfl
    have n1 : W5.cell? ⟨w4.heap.size,1,none⟩ = some (.int .i64 b) := by rw [<- hW5];exact cell_new w4 _ _ 1 _ rfl
    have n2 : W5.cell? ⟨w4.heap.size,2,none⟩ = some (.int .i64 c) := by rw [<- hW5];exact cell_new w4 _ _ 2 _ rfl
    rw [hW5] at hb5
    rw [hW5]
    have hs3 := HB3'.out.size
    simp at hs3
    have hA3 : Arr3 w3 W.heap.size 0 0 0 := ⟨⟨(HB3'.out.cell (Nat.lt_succ_self _) HFB.out).trans HA.out.1.1,(HB3'.out.cell (Nat.lt_succ_self _) HFB.out).trans HA.out.1.2.1,(HB3'.out.cell (Nat.lt_succ_self _) HFB.out).trans HA.out.1.2.2⟩,fun i => (HB3'.out.frozen (Nat.lt_succ_self _) HFB.out).trans (HA.out.2 i)⟩
    have hA5 := hA3.below hb5 (by omega)
    have hF3 := (HB3'.out.keep W.heap.size (Nat.lt_succ_self _) HFB.out).2
    have HF5 := Lib.hid (freeAt_below hb5 HR3.out.lt hF3)
    have HR5 := Lib.hid (HR3.out.below hb5)
    have HB5 := Lib.hid (HB3.out.trans ((RB.of_below hb5 HR3.out.lt).mono HB3.out.size))
    have HP := Lib.hid (put3_arr hA5 a b c)
    have HRF := Lib.hid (((HR5.out.set HF5.out (hR := hRB) (i := 0) (v := .int .i64 a)).set (HF5.out.set HF5.out.1) (hR := hRB) (i := 1) (v := .int .i64 b)).set ((HF5.out.set HF5.out.1).set HF5.out.1) (hR := hRB) (i := 2) (v := .int .i64 c))
    have HBF := Lib.hid (((HB5.out.set (b := W.heap.size) (i := 0) (v := .int .i64 a) (Nat.le_refl _) HF5.out.1).set (b := W.heap.size) (i := 1) (v := .int .i64 b) (Nat.le_refl _) HF5.out.1).set (b := W.heap.size) (i := 2) (v := .int .i64 c) (Nat.le_refl _) HF5.out.1)
    obtain ⟨⟨x0,x1,x2⟩,xf⟩ := hA5
    have y0 := xf 0
    have y1 := xf 1
    have y2 := xf 2
    obtain ⟨⟨g0,g1,g2⟩,_⟩ := HP.out
    unfold put3 at g0 g1 g2
    clear hW5 xf hA3 hF3 hb5 hb4
    go_wp2_with (go_at_call 51;refine (HMU.out _).mono ?_;rintro e w5 ⟨rfl,rfl⟩)
    refine bodyPost_ret (v := encNd (a,b,c)) (by simp [results,Tryz.results50,go_sem,g0,g1,g2,encNd,encN]) rfl ?_
    rw [HEF.out]
    exact ⟨rfl,HRF.out,HBF.out⟩
end
section
open Go.RowKit
def ptrB (n : Int) : Bool := decide (0 < n ∧ n < 1024)
theorem pointer8_any (n : Int) (W : World) :
  Calls Tryz.prog 228 #[.int .i64 n,.bool true] W fun e W' => e = .returned (.bool (ptrB n)) ∧ W' = W := by
 by_cases h1 : n < 1024
 ·by_cases h2 : 0 < n
  ·have h : Hid (ptrB n = true) := decide_eq_true ⟨h2,h1⟩
   go_enter Tryz.func228,Tryz.ntmps228
   go_wp2
   go_ret
   exact ⟨by rw [h.out];rfl,rfl⟩
  ·have h : Hid (ptrB n = false) := decide_eq_false (by omega)
   go_enter Tryz.func228,Tryz.ntmps228
   by_cases h0 : n = 0
   ·subst h0
    go_wp2
    go_ret
    exact ⟨by rw [h.out];rfl,rfl⟩
   ·have h0' : (n == 0) = false := by rw [beq_eq_false_iff_ne];exact h0
    go_wp2
    go_ret
    exact ⟨by rw [h.out];rfl,rfl⟩
 ·have h : Hid (ptrB n = false) := decide_eq_false (by omega)
  go_enter Tryz.func228,Tryz.ntmps228
  go_wp2
  go_ret
  exact ⟨by rw [h.out];rfl,rfl⟩
theorem small8_any (x : Nat) (W : World) (hx : x < 18446744073709551616) :
  Calls Tryz.prog 184 #[.int .u64 x] W fun e W' => e = .returned (.int .i64 (smallI x)) ∧ W' = W := by
 by_cases h : x < 1048576
 ·have hs : Hid (smallI x = x) := by rw [Hid,smallI,if_pos h]
  have h' : ¬ (1048576 : Int) <= (x : Int) := by omega
  have hu : IntKind.i64.wrap (x : Int) = (x : Int) := IntWalk.i64_in _ (by omega)
  go_enter Tryz.func184,Tryz.ntmps184
  go_wp2
  go_ret
  exact ⟨by rw [hs.out];rfl,rfl⟩
 ·have hs : Hid (smallI x = -1) := by rw [Hid,smallI,if_neg h]
  have h' : (1048576 : Int) <= (x : Int) := by omega
  go_enter Tryz.func184,Tryz.ntmps184
  go_wp2
  go_ret
  exact ⟨by rw [hs.out];rfl,rfl⟩
def rightIB (k l t : Int) : Bool := decide (1 <= l ∧ l <= 200) && (ptrB t && (k == 1 || k == 2 && l == 1))
set_option maxRecDepth 100000 in
set_option maxHeartbeats 2000000 in
theorem rightInode8_any (k l t : Int) (W : World) :
  Calls Tryz.prog 185 #[.agg #[.int .i64 k,.int .i64 l,.int .i64 t]] W fun e W' => e = .returned (.bool (rightIB k l t)) ∧ Below W.heap.size W W' := by
 have HP := Lib.hid (fun W => pointer8_any t W)
 have hb : Below W.heap.size W (W.alloc (.cells #[.int .i64 k,.int .i64 l,.int .i64 t] 46)) := (Below.refl _ _).alloc (Nat.le_refl _) _
 have HB := Lib.hid hb
 clear hb
 by_cases h1 : l < 1
 ·have h : Hid (rightIB k l t = false) := by rw [Hid,rightIB,decide_eq_false (by omega)];rfl
  go_enter Tryz.func185,Tryz.ntmps185
  go_wp2
  go_ret
  exact ⟨by rw [h.out];rfl,HB.out⟩
 ·by_cases h2 : 200 < l
  ·have h : Hid (rightIB k l t = false) := by rw [Hid,rightIB,decide_eq_false (by omega)];rfl
   go_enter Tryz.func185,Tryz.ntmps185
   go_wp2
   go_ret
   exact ⟨by rw [h.out];rfl,HB.out⟩
  ·cases hpt : ptrB t
   ·have h : Hid (rightIB k l t = false) := by rw [Hid,rightIB,hpt];simp
    rw [hpt] at HP
    clear hpt
    go_enter Tryz.func185,Tryz.ntmps185
    go_wp2_with (go_at_call 228;refine (HP.out _).mono ?_;rintro e w9 ⟨rfl,rfl⟩)
    go_ret
    exact ⟨by rw [h.out];rfl,HB.out⟩
   ·have h : Hid (rightIB k l t = (k == 1 || k == 2 && l == 1)) := by rw [Hid,rightIB,hpt,decide_eq_true (by omega)];rfl
    rw [hpt] at HP
    clear hpt
    by_cases e1 : k = 1
    ·subst e1
     go_enter Tryz.func185,Tryz.ntmps185
     go_wp2_with (go_at_call 228;refine (HP.out _).mono ?_;rintro e w9 ⟨rfl,rfl⟩)
     go_ret
     exact ⟨by rw [h.out];rfl,HB.out⟩
    ·have e1' : (k == 1) = false := by rw [beq_eq_false_iff_ne];exact e1
     by_cases e2 : k = 2
     ·subst e2
      have h' : Hid (rightIB 2 l t = (l == 1)) := by rw [Hid,h.out];rfl
      go_enter Tryz.func185,Tryz.ntmps185
      go_wp2_with (go_at_call 228;refine (HP.out _).mono ?_;rintro e w9 ⟨rfl,rfl⟩)
      go_ret
      exact ⟨by rw [h'.out];rfl,HB.out⟩
     ·have e2' : (k == 2) = false := by rw [beq_eq_false_iff_ne];exact e2
      have h' : Hid (rightIB k l t = false) := by rw [Hid,h.out,e1',e2'];rfl
      go_enter Tryz.func185,Tryz.ntmps185
      go_wp2_with (go_at_call 228;refine (HP.out _).mono ?_;rintro e w9 ⟨rfl,rfl⟩)
      go_ret
      exact ⟨by rw [h'.out];rfl,HB.out⟩
set_option maxRecDepth 100000 in
set_option maxHeartbeats 2000000 in
theorem noughts8_any (k t : Nat) (W : World) :
  Calls Tryz.prog 186 #[encLn k t,.int .i64 2] W fun e W' => e = .returned (.bool true) ∧ Below W.heap.size W W' := by
 have hb : Below W.heap.size W (W.alloc (.cells #[.int .u64 k,.int .u64 t,.int .u64 0,.int .u64 0,.int .u64 0,.int .u64 0,.int .u64 0,.int .u64 0] 136)) := (Below.refl _ _).alloc (Nat.le_refl _) _
 have HB := Lib.hid hb
 clear hb
 unfold encLn
 go_enter Tryz.func186,Tryz.ntmps186
 go_wp2
 go_loop [5] (fun i => ∃ j : Nat,i = .int .i64 j ∧ 2 <= j ∧ j <= 8) (fun i => 8 - (intOf i).toNat)
 case atStart => exact ⟨2,rfl,by omega,by omega⟩
 case round =>
  obtain ⟨j,rfl,h2,h8⟩ := hrel
  have hj : j = 2 ∨ j = 3 ∨ j = 4 ∨ j = 5 ∨ j = 6 ∨ j = 7 ∨ j = 8 := by omega
  clear h2 h8
  rcases hj with rfl | rfl | rfl | rfl | rfl | rfl | rfl
  ·go_wp2
   go_round
   case rel => exact ⟨3,rfl,by omega,by omega⟩
   case measure => simp [intOf]
  ·go_wp2
   go_round
   case rel => exact ⟨4,rfl,by omega,by omega⟩
   case measure => simp [intOf]
  ·go_wp2
   go_round
   case rel => exact ⟨5,rfl,by omega,by omega⟩
   case measure => simp [intOf]
  ·go_wp2
   go_round
   case rel => exact ⟨6,rfl,by omega,by omega⟩
   case measure => simp [intOf]
  ·go_wp2
   go_round
   case rel => exact ⟨7,rfl,by omega,by omega⟩
   case measure => simp [intOf]
  ·go_wp2
   go_round
   case rel => exact ⟨8,rfl,by omega,by omega⟩
   case measure => simp [intOf]
  ·go_wp2
   go_ret
   exact ⟨rfl,HB.out⟩
def getN (k t : Nat) : (Nat × Nat × Nat) × Bool := match nodeP k t with | some n => (n,true) | none => ((0,0,0),false)
theorem rightIB_node (k t : Nat) (hk : k < 1048576) : rightIB ((k : Int) % 256) ((k : Int) / 256) (smallI t) = (nodeP k t).isSome := by
 unfold rightIB nodeP ptrB smallI
 by_cases h : (k % 256 = 1 ∨ k % 256 = 2 ∧ k / 256 = 1) ∧ 1 <= k / 256 ∧ k / 256 <= 200 ∧ 1 <= t ∧ t < 1024
 ·rw [if_pos h,if_pos (by omega),decide_eq_true (by omega),decide_eq_true (by omega)]
  simp only [Bool.true_and,Option.isSome_some]
  rcases h.1 with h1 | ⟨h1,h2⟩
  ·rw [show ((k : Int) % 256 == 1) = true from beq_iff_eq.2 (by omega)];rfl
  ·rw [show ((k : Int) % 256 == 2) = true from beq_iff_eq.2 (by omega),show ((k : Int) / 256 == 1) = true from beq_iff_eq.2 (by omega)];simp
 ·rw [if_neg h]
  simp only [Option.isSome_none]
  rw [Bool.eq_false_iff]
  intro hc
  simp only [Bool.and_eq_true,Bool.or_eq_true,decide_eq_true_eq,beq_iff_eq] at hc
  apply h
  split at hc <;> omega
def CellsAt3 (W : World) (X : Nat) : Prop := (W.cell? ⟨X,0,none⟩ = some (.int .i64 0) ∧ W.cell? ⟨X,1,none⟩ = some (.int .i64 0) ∧ W.cell? ⟨X,2,none⟩ = some (.int .i64 0)) ∧ W.frozen? ⟨X,0,none⟩ = false ∧ W.frozen? ⟨X,1,none⟩ = false ∧ W.frozen? ⟨X,2,none⟩ = false
theorem CellsAt3.below {W W' : World} {X : Nat} (h : CellsAt3 W X) (hb : Below W.heap.size W W') (hX : X < W.heap.size) : CellsAt3 W' X :=
 ⟨⟨(hb.cell (p := ⟨X,0,none⟩) hX).trans h.1.1,(hb.cell (p := ⟨X,1,none⟩) hX).trans h.1.2.1,(hb.cell (p := ⟨X,2,none⟩) hX).trans h.1.2.2⟩,(hb.frozen (p := ⟨X,0,none⟩) hX).trans h.2.1,(hb.frozen (p := ⟨X,1,none⟩) hX).trans h.2.2.1,(hb.frozen (p := ⟨X,2,none⟩) hX).trans h.2.2.2⟩
def Cells3 (W : World) (X : Nat) (a b c : Int) : Prop := W.cell? ⟨X,0,none⟩ = some (.int .i64 a) ∧ W.cell? ⟨X,1,none⟩ = some (.int .i64 b) ∧ W.cell? ⟨X,2,none⟩ = some (.int .i64 c)
theorem Cells3.below {W W' : World} {X : Nat} {a b c : Int} (h : Cells3 W X a b c) (hb : Below W.heap.size W W') (hX : X < W.heap.size) : Cells3 W' X a b c :=
 ⟨(hb.cell (p := ⟨X,0,none⟩) hX).trans h.1,(hb.cell (p := ⟨X,1,none⟩) hX).trans h.2.1,(hb.cell (p := ⟨X,2,none⟩) hX).trans h.2.2⟩
section
variable {W w1 : World} {T T1 T2 : TypeId} {cs : Array Value} {x y z : Int}
theorem cells3_keep (hb : Below (((W.alloc (.cells cs T)).alloc (.cells #[.int .i64 0,.int .i64 0,.int .i64 0] T1)).alloc (.cells #[.int .i64 x,.int .i64 y,.int .i64 z] T2)).heap.size (((W.alloc (.cells cs T)).alloc (.cells #[.int .i64 0,.int .i64 0,.int .i64 0] T1)).alloc (.cells #[.int .i64 x,.int .i64 y,.int .i64 z] T2)) w1) : CellsAt3 w1 (W.heap.size + 1) := by
 refine CellsAt3.below ?_ hb (by simp)
 refine CellsAt3.below (W := (W.alloc (.cells cs T)).alloc (.cells #[.int .i64 0,.int .i64 0,.int .i64 0] T1)) ?_ ((Below.refl _ _).alloc (Nat.le_refl _) _) (by simp)
 have e : (W.alloc (.cells cs T)).heap.size = W.heap.size + 1 := World.size_alloc _ _
 rw [<- e]
 exact ⟨⟨cell_new _ _ _ 0 _ rfl,cell_new _ _ _ 1 _ rfl,cell_new _ _ _ 2 _ rfl⟩,by simp,by simp,by simp⟩
theorem cells3_last (hb : Below (((W.alloc (.cells cs T)).alloc (.cells #[.int .i64 0,.int .i64 0,.int .i64 0] T1)).alloc (.cells #[.int .i64 x,.int .i64 y,.int .i64 z] T2)).heap.size (((W.alloc (.cells cs T)).alloc (.cells #[.int .i64 0,.int .i64 0,.int .i64 0] T1)).alloc (.cells #[.int .i64 x,.int .i64 y,.int .i64 z] T2)) w1) : Cells3 w1 (W.heap.size + 2) x y z := by
 refine Cells3.below ?_ hb (by simp)
 have e : ((W.alloc (.cells cs T)).alloc (.cells #[.int .i64 0,.int .i64 0,.int .i64 0] T1)).heap.size = W.heap.size + 2 := by simp
 rw [<- e]
 exact ⟨cell_new _ _ _ 0 _ rfl,cell_new _ _ _ 1 _ rfl,cell_new _ _ _ 2 _ rfl⟩
theorem cells8_keep {a0 a1 a2 a3 a4 a5 a6 a7 : Value} (hb : Below (((W.alloc (.cells #[a0,a1,a2,a3,a4,a5,a6,a7] T)).alloc (.cells #[.int .i64 0,.int .i64 0,.int .i64 0] T1)).alloc (.cells #[.int .i64 x,.int .i64 y,.int .i64 z] T2)).heap.size (((W.alloc (.cells #[a0,a1,a2,a3,a4,a5,a6,a7] T)).alloc (.cells #[.int .i64 0,.int .i64 0,.int .i64 0] T1)).alloc (.cells #[.int .i64 x,.int .i64 y,.int .i64 z] T2)) w1) :
  w1.cell? ⟨W.heap.size,0,none⟩ = some a0 ∧ w1.cell? ⟨W.heap.size,1,none⟩ = some a1 ∧ w1.cell? ⟨W.heap.size,2,none⟩ = some a2 ∧ w1.cell? ⟨W.heap.size,3,none⟩ = some a3 ∧ w1.cell? ⟨W.heap.size,4,none⟩ = some a4 ∧ w1.cell? ⟨W.heap.size,5,none⟩ = some a5 ∧ w1.cell? ⟨W.heap.size,6,none⟩ = some a6 ∧ w1.cell? ⟨W.heap.size,7,none⟩ = some a7 := by
 have hx : Below (W.heap.size + 1) (W.alloc (.cells #[a0,a1,a2,a3,a4,a5,a6,a7] T)) w1 := (((Below.refl _ _).alloc (by simp) _).alloc (by simp) _).trans (hb.mono (by simp))
 have h : ∀ i v,#[a0,a1,a2,a3,a4,a5,a6,a7][i]? = some v -> w1.cell? ⟨W.heap.size,i,none⟩ = some v := fun i v hv => (hx.cell (p := ⟨W.heap.size,i,none⟩) (Nat.lt_succ_self _)).trans (cell_new W _ _ i _ hv)
 exact ⟨h 0 _ rfl,h 1 _ rfl,h 2 _ rfl,h 3 _ rfl,h 4 _ rfl,h 5 _ rfl,h 6 _ rfl,h 7 _ rfl⟩
end
set_option maxRecDepth 100000 in
set_option maxHeartbeats 4000000 in
theorem getInode8_any (k t : Nat) (W : World) (hk : k < 18446744073709551616) (ht : t < 18446744073709551616) :
  Calls Tryz.prog 126 #[encLn k t] W fun e W' => e = .returned (.tuple #[encNd (getN k t).1,.bool (getN k t).2]) ∧ Below W.heap.size W W' := by
 have HS1 := Lib.hid (fun W => small8_any k W hk)
 have HS2 := Lib.hid (fun W => small8_any t W ht)
 have HN := Lib.hid (fun W => noughts8_any k t W)
 unfold encLn at HN
 have hW0 : ∀ (x y z : Int),Below W.heap.size W (((W.alloc (.cells #[.int .u64 k,.int .u64 t,.int .u64 0,.int .u64 0,.int .u64 0,.int .u64 0,.int .u64 0,.int .u64 0] 136)).alloc (.cells #[.int .i64 0,.int .i64 0,.int .i64 0] 46)).alloc (.cells #[.int .i64 x,.int .i64 y,.int .i64 z] 46)) := fun x y z => (((Below.refl _ _).alloc (Nat.le_refl _) _).alloc (by simp) _).alloc (by simp;omega) _
 have HW0 := Lib.hid hW0
 clear hW0
 by_cases hk20 : k < 1048576
 ·have hsk : smallI k = k := by unfold smallI;rw [if_pos hk20]
  rw [hsk] at HS1
  have hri := rightIB_node k t hk20
  have hk0 : ¬ (k : Int) < 0 := by omega
  cases hn : nodeP k t with
  | none =>
   rw [hn,Option.isSome_none] at hri
   have hR := fun W => rightInode8_any ((k : Int) % 256) ((k : Int) / 256) (smallI t) W
   rw [hri] at hR
   have HR := Lib.hid hR
   have hg : getN k t = ((0,0,0),false) := by unfold getN;rw [hn]
   rw [hg]
   clear hsk hri hn hg hR
   generalize smallI t = s at *
   unfold encLn encNd encN
   go_enter Tryz.func126,Tryz.ntmps126
   go_wp2_with (first
    | ((with_reducible refine (HS1.out _).mono ?_);rintro e w9 ⟨rfl,rfl⟩)
    | ((with_reducible refine (HS2.out _).mono ?_);rintro e w9 ⟨rfl,rfl⟩))
   refine (HR.out _).mono ?_
   rintro e w1 ⟨rfl,hb1⟩
   have HB1 := Lib.hid ((HW0.out _ _ _).trans (hb1.mono (by simp;omega)))
   have hc : CellsAt3 w1 (W.heap.size + 1) := cells3_keep (W := W) hb1
   obtain ⟨⟨x0,x1,x2⟩,y0,y1,y2⟩ := hc
   clear hb1
   go_wp2_with fail
   refine bodyPost_ret (v := .tuple #[.agg #[.int .i64 0,.int .i64 0,.int .i64 0],.bool false]) (by simp [results,Tryz.results126,go_sem,x0,x1,x2,y0,y1,y2]) rfl ?_
   exact ⟨rfl,(HB1.out.setCell (p := ⟨W.heap.size + 1,0,none⟩) (by show W.heap.size <= W.heap.size + 1;omega) _).setCell (p := ⟨W.heap.size + 1,1,none⟩) (by show W.heap.size <= W.heap.size + 1;omega) _ |>.setCell (p := ⟨W.heap.size + 1,2,none⟩) (by show W.heap.size <= W.heap.size + 1;omega) _⟩
  | some n =>
   rw [hn,Option.isSome_some] at hri
   have hR := fun W => rightInode8_any ((k : Int) % 256) ((k : Int) / 256) (smallI t) W
   rw [hri] at hR
   have HR := Lib.hid hR
   have hg : getN k t = (n,true) := by unfold getN;rw [hn]
   have hnk : n = (k % 256,k / 256,t) ∧ t < 1024 := by
    unfold nodeP at hn
    split at hn
    ·rename_i h
     exact ⟨(Option.some.inj hn).symm,h.2.2.2.2⟩
    ·cases hn
   obtain ⟨rfl,ht4⟩ := hnk
   have hst : smallI t = t := by unfold smallI;rw [if_pos (by omega)]
   rw [hg]
   rw [hst] at HS2 HR
   clear hsk hri hn hg hR hst
   have HE : Hid (encNd (k % 256,k / 256,t) = .agg #[.int .i64 ((k : Int) % 256),.int .i64 ((k : Int) / 256),.int .i64 t]) := rfl
   unfold encLn
   go_enter Tryz.func126,Tryz.ntmps126
   go_wp2_with (first
    | ((with_reducible refine (HS1.out _).mono ?_);rintro e w9 ⟨rfl,rfl⟩)
    | ((with_reducible refine (HS2.out _).mono ?_);rintro e w9 ⟨rfl,rfl⟩))
   refine (HR.out _).mono ?_
   rintro e w1 ⟨rfl,hb1⟩
   have HB1 := Lib.hid ((HW0.out _ _ _).trans (hb1.mono (by simp;omega)))
   have HD := Lib.hid (cells8_keep hb1)
   obtain ⟨c0,c1,c2,c3,c4,c5,c6,c7⟩ := HD.out
   have hs1 : W.heap.size + 3 <= w1.heap.size := by have := hb1.size;simp at this;omega
   have HX := Lib.hid (cells3_last hb1)
   have HZ := Lib.hid (cells3_keep (W := W) hb1)
   clear hb1
   go_wp2_with fail
   refine (HN.out _).mono ?_
   rintro e w2 ⟨rfl,hb2⟩
   clear c0 c1 c2 c3 c4 c5 c6 c7
   obtain ⟨u0,u1,u2⟩ := HX.out.below hb2 (by omega)
   obtain ⟨⟨x0,x1,x2⟩,y0,y1,y2⟩ := HZ.out.below hb2 (by omega)
   have HB2 := Lib.hid (HB1.out.trans (hb2.mono (by omega)))
   clear hb2
   go_wp2_with fail
   refine bodyPost_ret (v := .tuple #[.agg #[.int .i64 ((k : Int) % 256),.int .i64 ((k : Int) / 256),.int .i64 t],.bool true]) (by simp [results,Tryz.results126,go_sem,x0,x1,x2,y0,y1,y2]) rfl ?_
   exact ⟨by rw [HE.out],(HB2.out.setCell (p := ⟨W.heap.size + 1,0,none⟩) (by show W.heap.size <= W.heap.size + 1;omega) _).setCell (p := ⟨W.heap.size + 1,1,none⟩) (by show W.heap.size <= W.heap.size + 1;omega) _ |>.setCell (p := ⟨W.heap.size + 1,2,none⟩) (by show W.heap.size <= W.heap.size + 1;omega) _⟩
 ·have hsk : smallI k = -1 := by unfold smallI;rw [if_neg hk20]
  rw [hsk] at HS1
  have hg : getN k t = ((0,0,0),false) := by
   unfold getN nodeP
   rw [if_neg (by omega)]
  rw [hg]
  clear hsk hg
  generalize smallI t = s at *
  unfold encLn encNd encN
  go_enter Tryz.func126,Tryz.ntmps126
  go_wp2_with (first
   | ((with_reducible refine (HS1.out _).mono ?_);rintro e w9 ⟨rfl,rfl⟩)
   | ((with_reducible refine (HS2.out _).mono ?_);rintro e w9 ⟨rfl,rfl⟩))
  refine bodyPost_ret (v := .tuple #[.agg #[.int .i64 0,.int .i64 0,.int .i64 0],.bool false]) (by simp [results,Tryz.results126,go_sem]) rfl ?_
  exact ⟨rfl,HW0.out _ _ _⟩
end
end Go.Proofs.YtdpooagnbmpinaaGreatDoor
