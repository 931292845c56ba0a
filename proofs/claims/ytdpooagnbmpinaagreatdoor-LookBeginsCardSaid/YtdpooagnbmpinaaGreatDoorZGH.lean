/- The contract of the reader's enter. Conditions: none. -/
import Derived.Test.YtdpooagnbmpinaaGreatDoorZGG
import Derived.Test.YtdpooagnbmpinaaGreatDoorZG4
import Derived.Test.YtdpooagnbmpinaaGreatDoorZKB
namespace Go.Proofs.YtdpooagnbmpinaaGreatDoor
open Go.RowKit

/-- The panic of a walk that gives up. -/
def outV : Out → PanicEntry
  | .need p => needV p
  | .err c => errV c
theorem endOf_stop {α : Type} (enc : α → Value) (o : Out) (l : List Nat) : endOf enc (.stop o l) = .panicked [outV o] := by cases o <;> rfl
section
variable {α : Type} {R : Nat} {FA : Option Addr} {nf cf : Nat} {fed : List Nat} {f : FuncId} {args : Array Value} {W : World} {enc : α → Value} {r : Res α}
theorem reads_val (h : Calls Tryz.prog f args W (ReadsTo R FA nf cf fed W enc r)) {a : α} {l : List Nat} (hr : r = .val a l) :
    Calls Tryz.prog f args W fun e W' => e = .returned (enc a) ∧ RdAt R FA nf cf fed l W' ∧ RB R W.heap.size W W' := by subst hr; exact h
theorem reads_stop (h : Calls Tryz.prog f args W (ReadsTo R FA nf cf fed W enc r)) {o : Out} {l : List Nat} (hr : r = .stop o l) :
    Calls Tryz.prog f args W fun e W' => e = .panicked [outV o] ∧ RdAt R FA nf cf fed l W' ∧ RB R W.heap.size W W' := by
  subst hr
  refine h.mono ?_
  rintro e W' ⟨he, h1, h2⟩
  exact ⟨by rw [he, endOf_stop], h1, h2⟩
end
variable {R : Nat} {FA : Option Addr} {nf cf : Nat} {fed ats : List Nat}
theorem loadP_val {p x : Nat} {l : List Nat} (h : loadP fed p ats = .val x l) : l = ats ++ [p] ∧ x ∈ fed := by
  unfold loadP at h
  split at h
  · rename_i y hy
    cases h
    exact ⟨rfl, List.mem_of_getElem? hy⟩
  · cases h
/-- A node as a value. -/
def encNd (n : Nat × Nat × Nat) : Value := encN n.1 n.2.1 n.2.2
theorem FreeAt.set {W : World} {b B i : Nat} {v : Value} (h : FreeAt R W b) (hne : B ≠ R) : FreeAt R (W.setCell ⟨B, i, none⟩ v) b :=
  ⟨h.1, fun u hu => h.2 u (by rwa [World.cell?_setCell_other _ _ _ _ (by intro e; injection e with e; exact hne e)] at hu)⟩
theorem RdAt.set {W : World} {B i : Nat} {v : Value} (h : RdAt R FA nf cf fed ats W) (hf : FreeAt R W B) (hR : R ≤ B := by omega) : RdAt R FA nf cf fed ats (W.setCell ⟨B, i, none⟩ v) := by
  have hot : ∀ b j, b ≠ B → (W.setCell ⟨B, i, none⟩ v).cell? ⟨b, j, none⟩ = W.cell? ⟨b, j, none⟩ := fun b j hb => World.cell?_setCell_other _ _ _ _ (by intro e; injection e with e; exact hb e.symm)
  obtain ⟨u, hu, ho⟩ := h.atsv
  refine ⟨by simpa [World.setCell] using h.lt, (hot R 0 (Ne.symm hf.1)).trans h.fedc, h.fedl, fun hn => ?_, h.feda, ⟨u, (hot R 1 (Ne.symm hf.1)).trans hu, ho.kept (grown_set W ⟨B, i, none⟩ v) (.inr (hf.2 u hu))⟩, (World.frozen?_setCell _ _ _ _).trans h.frz⟩
  obtain ⟨b, off, e, hb, hc⟩ := h.fedr hn
  have := h.feda (by rw [List.length_map] at hn; exact hn) b off e
  exact ⟨b, off, e, by simpa [World.setCell] using hb, fun k w hw => (hot b _ (by omega)).trans (hc k w hw)⟩
theorem RB.set {W0 W : World} {n b i : Nat} {v : Value} (h : RB R n W0 W) (hn : n ≤ b) (hne : b ≠ R) : RB R n W0 (W.setCell ⟨b, i, none⟩ v) :=
  ⟨h.os, h.tape, h.output, by simpa [World.setCell] using h.size, fun k hk hf => ⟨(Below.heap_setCell W ⟨b, i, none⟩ v k (by show k ≠ b; omega)).trans (h.keep k hk hf).1, (h.keep k hk hf).2.set hne⟩⟩
theorem RdAt.drew' {W : World} (h : RdAt R FA nf cf fed ats W) : RdAt R FA nf cf fed ats { W with drawn := W.drawn + 1 } := h.below ((Below.refl _ W).drew)
theorem RB.drew' (R B : Nat) (W : World) : RB R B W { W with drawn := W.drawn + 1 } := ⟨rfl, rfl, rfl, Nat.le_refl _, fun _ _ h => ⟨rfl, h⟩⟩
set_option maxRecDepth 100000 in
set_option maxHeartbeats 4000000 in
theorem enter_any (line : Nat) (W : World) (hline : line ≤ 100000) (hl : ats.length + 2 ≤ 100000) (hnf : nf ≤ 100000) (hx64 : ∀ x ∈ fed, x < 18446744073709551616) (h : RdAt R FA nf cf fed ats W) :
    Calls Tryz.prog 50 #[.pointer (some ⟨R, 0, none⟩), .int .i64 line] W (ReadsTo R FA nf cf fed W encNd (enterP fed line ats)) := by
  have HL := Lib.hid (fun (p : Nat) (ats : List Nat) (W : World) (hp : p < 9223372036854775808) (hl : ats.length ≤ 100000) (h : RdAt R FA nf cf fed ats W) => loadTo p W hp hl hnf hx64 h)
  have hat0 := fun W => at_any line 0 W (by omega)
  have hat1 := fun W => at_any line 1 W (by omega)
  have HE0 : Hid (enterP fed line ats = (loadP fed (line * 8 + 0) ats).bind fun k ats => (loadP fed (line * 8 + 1) ats).bind fun t ats => match nodeP k t with | some n => .val n ats | none => .stop (.err 300) ats) := rfl
  obtain ⟨p, hp⟩ : ∃ p, line * 8 + 0 = p := ⟨_, rfl⟩
  obtain ⟨q, hq⟩ : ∃ q, line * 8 + 1 = q := ⟨_, rfl⟩
  rw [hp] at hat0 HE0
  rw [hq] at hat1 HE0
  have hpb : p < 9223372036854775808 := by omega
  have hqb : q < 9223372036854775808 := by omega
  have HAT0 := Lib.hid hat0
  have HAT1 := Lib.hid hat1
  have HX := Lib.hid hx64
  have hb1 : Below W.heap.size W (W.alloc (.cells #[.int .i64 0, .int .i64 0, .int .i64 0] 46)) := (Below.refl _ _).alloc (Nat.le_refl _) _
  have HR1 := Lib.hid (h.below hb1).drew'
  have HFB := Lib.hid (h.free_new hb1 (Nat.le_refl _))
  have HB1 := Lib.hid ((RB.of_below hb1 h.lt).trans (RB.drew' R W.heap.size _))
  have hRB : R ≤ W.heap.size := Nat.le_of_lt h.lt
  clear h hb1 hx64 hat0 hat1 hp hq
  generalize hr1 : loadP fed p ats = r1 at HE0
  cases r1 with
  | stop o l =>
    have HC := Lib.hid (reads_stop (HL.out _ _ _ hpb (by omega) HR1.out) hr1)
    have HEF : Hid (enterP fed line ats = .stop o l) := HE0.out
    clear hr1 HE0
    go_enter Tryz.func50, Tryz.ntmps50
    go_wp2_with fail
    refine box_tail 5 (by kernel_rfl) (by kernel_rfl) ?_
    simp only [List.take_succ_cons, List.take_zero, List.drop_succ_cons, List.drop_zero]
    iterate 4
      refine box_step (fun K hK => ?_)
      go_simp
      refine hK _ ?_
      clear hK K
    refine box_step (fun K hK => ?_)
    go_simp
    refine ⟨_, HAT0.out _, hK _ ?_⟩
    clear hK K
    refine ⟨wpStill_nil ?_⟩
    go_wp2_with (go_at_call 49; refine HC.out.mono ?_; rintro e w2 ⟨rfl, h2, hb2⟩)
    exact ⟨rfl, by rw [HEF.out]; exact ⟨(endOf_stop _ _ _).symm, h2, HB1.out.trans (hb2.mono (by simp))⟩⟩
  | val k l =>
    obtain ⟨hl1, hkf⟩ := loadP_val hr1
    have hlen : l.length = ats.length + 1 := by rw [hl1, List.length_append]; rfl
    have hk64 := HX.out k hkf
    have HC := Lib.hid (reads_val (HL.out _ _ _ hpb (by omega) HR1.out) hr1)
    have HE1 : Hid (enterP fed line ats = (loadP fed q l).bind fun t ats => match nodeP k t with | some n => .val n ats | none => .stop (.err 300) ats) := HE0.out
    clear hr1 HE0 hl1 hkf
    generalize hr2 : loadP fed q l = r2 at HE1
    cases r2 with
    | stop o l2 =>
      have HEF : Hid (enterP fed line ats = .stop o l2) := HE1.out
      clear HE1
      go_enter Tryz.func50, Tryz.ntmps50
      go_wp2_with fail
      refine box_tail 5 (by kernel_rfl) (by kernel_rfl) ?_
      simp only [List.take_succ_cons, List.take_zero, List.drop_succ_cons, List.drop_zero]
      iterate 4
        refine box_step (fun K hK => ?_)
        go_simp
        refine hK _ ?_
        clear hK K
      refine box_step (fun K hK => ?_)
      go_simp
      refine ⟨_, HAT0.out _, hK _ ?_⟩
      clear hK K
      refine ⟨wpStill_nil ?_⟩
      go_wp2_with (go_at_call 49; refine HC.out.mono ?_; rintro e w2 ⟨rfl, h2, hb2⟩)
      have HB2 := Lib.hid (HB1.out.trans (hb2.mono (by simp)))
      have HC2 := Lib.hid (reads_stop (HL.out _ _ _ hqb (by omega) h2.drew') hr2)
      clear h2 hb2 hr2
      go_wp2_with fail
      refine box_tail 5 (by kernel_rfl) (by kernel_rfl) ?_
      simp only [List.take_succ_cons, List.take_zero, List.drop_succ_cons, List.drop_zero]
      iterate 4
        refine box_step (fun K hK => ?_)
        go_simp
        refine hK _ ?_
        clear hK K
      refine box_step (fun K hK => ?_)
      go_simp
      refine ⟨_, HAT1.out _, hK _ ?_⟩
      clear hK K
      refine ⟨wpStill_nil ?_⟩
      go_wp2_with (go_at_call 49; refine HC2.out.mono ?_; rintro e w3 ⟨rfl, h3, hb3⟩)
      exact ⟨rfl, by rw [HEF.out]; exact ⟨(endOf_stop _ _ _).symm, h3, (HB2.out.trans (RB.drew' _ _ _)).trans (hb3.mono HB2.out.size)⟩⟩
    | val t l2 =>
      obtain ⟨hl2, htf⟩ := loadP_val hr2
      have ht64 := HX.out t htf
      have HEF : Hid (enterP fed line ats = match nodeP k t with | some n => .val n l2 | none => .stop (.err 300) l2) := HE1.out
      have hGI := fun W => getInode_any k t W hk64 ht64
      clear HE1 hl2 htf
      unfold nodeOut at hGI
      cases hnp : nodeP k t with
      | none =>
        rw [hnp] at HEF
        simp only [hnp] at hGI
        have HGI := Lib.hid hGI
        have HMU := Lib.hid (fun W => must_any false 300 W)
        clear hGI hnp
        unfold encLn encN at HGI
        go_enter Tryz.func50, Tryz.ntmps50
        go_wp2_with fail
        refine box_tail 5 (by kernel_rfl) (by kernel_rfl) ?_
        simp only [List.take_succ_cons, List.take_zero, List.drop_succ_cons, List.drop_zero]
        iterate 4
          refine box_step (fun K hK => ?_)
          go_simp
          refine hK _ ?_
          clear hK K
        refine box_step (fun K hK => ?_)
        go_simp
        refine ⟨_, HAT0.out _, hK _ ?_⟩
        clear hK K
        refine ⟨wpStill_nil ?_⟩
        go_wp2_with (go_at_call 49; refine HC.out.mono ?_; rintro e w2 ⟨rfl, h2, hb2⟩)
        have HB2 := Lib.hid (HB1.out.trans (hb2.mono (by simp)))
        have HC2 := Lib.hid (reads_val (HL.out _ _ _ hqb (by omega) h2.drew') hr2)
        clear h2 hb2 hr2
        go_wp2_with fail
        refine box_tail 5 (by kernel_rfl) (by kernel_rfl) ?_
        simp only [List.take_succ_cons, List.take_zero, List.drop_succ_cons, List.drop_zero]
        iterate 4
          refine box_step (fun K hK => ?_)
          go_simp
          refine hK _ ?_
          clear hK K
        refine box_step (fun K hK => ?_)
        go_simp
        refine ⟨_, HAT1.out _, hK _ ?_⟩
        clear hK K
        refine ⟨wpStill_nil ?_⟩
        go_wp2_with (go_at_call 49; refine HC2.out.mono ?_; rintro e w3 ⟨rfl, h3, hb3⟩)
        have HB3 := Lib.hid ((HB2.out.trans (RB.drew' _ _ _)).trans (hb3.mono HB2.out.size))
        have HR3 := Lib.hid h3
        clear h3 hb3
        go_wp2_with (first | (go_at_call 80; refine (HGI.out _).mono ?_; rintro e w4 ⟨rfl, hb4⟩) | (go_at_call 51; refine (HMU.out _).mono ?_; rintro e w5 ⟨rfl, rfl⟩))
        have hb5 : Below w3.heap.size w3 (w4.alloc (.cells #[.int .i64 0, .int .i64 0, .int .i64 0] 46)) := hb4.alloc hb4.size _
        exact ⟨rfl, by rw [HEF.out]; exact ⟨rfl, HR3.out.below hb5, HB3.out.trans ((RB.of_below hb5 HR3.out.lt).mono HB3.out.size)⟩⟩
      | some n =>
        rw [hnp] at HEF
        simp only [hnp] at hGI
        have HGI := Lib.hid hGI
        have HMU := Lib.hid (fun W => must_any true 300 W)
        obtain ⟨a, b, c⟩ := n
        clear hGI hnp
        unfold encLn encN at HGI
        have HA := Lib.hid (show Arr3 { W.alloc (.cells #[.int .i64 0, .int .i64 0, .int .i64 0] 46) with drawn := (W.alloc (.cells #[.int .i64 0, .int .i64 0, .int .i64 0] 46)).drawn + 1 } W.heap.size 0 0 0 from ⟨⟨cell_new W _ _ 0 _ rfl, cell_new W _ _ 1 _ rfl, cell_new W _ _ 2 _ rfl⟩, fun i => (World.frozen?_of_block (w := W.alloc (.cells #[.int .i64 0, .int .i64 0, .int .i64 0] 46)) rfl).trans (by simp)⟩)
        go_enter Tryz.func50, Tryz.ntmps50
        go_wp2_with fail
        refine box_tail 5 (by kernel_rfl) (by kernel_rfl) ?_
        simp only [List.take_succ_cons, List.take_zero, List.drop_succ_cons, List.drop_zero]
        iterate 4
          refine box_step (fun K hK => ?_)
          go_simp
          refine hK _ ?_
          clear hK K
        refine box_step (fun K hK => ?_)
        go_simp
        refine ⟨_, HAT0.out _, hK _ ?_⟩
        clear hK K
        refine ⟨wpStill_nil ?_⟩
        go_wp2_with (go_at_call 49; refine HC.out.mono ?_; rintro e w2 ⟨rfl, h2, hb2⟩)
        have HB2 := Lib.hid (HB1.out.trans (hb2.mono (by simp)))
        have HB2' := Lib.hid (hb2.mono (B' := W.heap.size + 1) (by simp))
        have HC2 := Lib.hid (reads_val (HL.out _ _ _ hqb (by omega) h2.drew') hr2)
        clear h2 hb2 hr2
        go_wp2_with fail
        refine box_tail 5 (by kernel_rfl) (by kernel_rfl) ?_
        simp only [List.take_succ_cons, List.take_zero, List.drop_succ_cons, List.drop_zero]
        iterate 4
          refine box_step (fun K hK => ?_)
          go_simp
          refine hK _ ?_
          clear hK K
        refine box_step (fun K hK => ?_)
        go_simp
        refine ⟨_, HAT1.out _, hK _ ?_⟩
        clear hK K
        refine ⟨wpStill_nil ?_⟩
        go_wp2_with (go_at_call 49; refine HC2.out.mono ?_; rintro e w3 ⟨rfl, h3, hb3⟩)
        have hs2 := HB2'.out.size
        simp at hs2
        have HB3 := Lib.hid ((HB2.out.trans (RB.drew' _ _ _)).trans (hb3.mono HB2.out.size))
        have HB3' := Lib.hid ((HB2'.out.trans (RB.drew' _ _ _)).trans (hb3.mono hs2))
        have HR3 := Lib.hid h3
        clear h3 hb3
        go_wp2_with (go_at_call 80; refine (HGI.out _).mono ?_; rintro e w4 ⟨rfl, hb4⟩)
        have hb5 : Below w3.heap.size w3 (w4.alloc (.cells #[.int .i64 a, .int .i64 b, .int .i64 c] 46)) := hb4.alloc hb4.size _
        obtain ⟨W5, hW5⟩ : ∃ W5, w4.alloc (.cells #[.int .i64 a, .int .i64 b, .int .i64 c] 46) = W5 := ⟨_, rfl⟩
        have n0 : W5.cell? ⟨w4.heap.size, 0, none⟩ = some (.int .i64 a) := by rw [← hW5]; exact cell_new w4 _ _ 0 _ rfl
        have n1 : W5.cell? ⟨w4.heap.size, 1, none⟩ = some (.int .i64 b) := by rw [← hW5]; exact cell_new w4 _ _ 1 _ rfl
        have n2 : W5.cell? ⟨w4.heap.size, 2, none⟩ = some (.int .i64 c) := by rw [← hW5]; exact cell_new w4 _ _ 2 _ rfl
        rw [hW5] at hb5
        rw [hW5]
        have hs3 := HB3'.out.size
        simp at hs3
        have hA3 : Arr3 w3 W.heap.size 0 0 0 := ⟨⟨(HB3'.out.cell (Nat.lt_succ_self _) HFB.out).trans HA.out.1.1, (HB3'.out.cell (Nat.lt_succ_self _) HFB.out).trans HA.out.1.2.1, (HB3'.out.cell (Nat.lt_succ_self _) HFB.out).trans HA.out.1.2.2⟩, fun i => (HB3'.out.frozen (Nat.lt_succ_self _) HFB.out).trans (HA.out.2 i)⟩
        have hA5 := hA3.below hb5 (by omega)
        have hF3 := (HB3'.out.keep W.heap.size (Nat.lt_succ_self _) HFB.out).2
        have HF5 := Lib.hid (freeAt_below hb5 HR3.out.lt hF3)
        have HR5 := Lib.hid (HR3.out.below hb5)
        have HB5 := Lib.hid (HB3.out.trans ((RB.of_below hb5 HR3.out.lt).mono HB3.out.size))
        have HP := Lib.hid (put3_arr hA5 a b c)
        have HRF := Lib.hid (((HR5.out.set HF5.out (hR := hRB) (i := 0) (v := .int .i64 a)).set (HF5.out.set HF5.out.1) (hR := hRB) (i := 1) (v := .int .i64 b)).set ((HF5.out.set HF5.out.1).set HF5.out.1) (hR := hRB) (i := 2) (v := .int .i64 c))
        have HBF := Lib.hid (((HB5.out.set (b := W.heap.size) (i := 0) (v := .int .i64 a) (Nat.le_refl _) HF5.out.1).set (b := W.heap.size) (i := 1) (v := .int .i64 b) (Nat.le_refl _) HF5.out.1).set (b := W.heap.size) (i := 2) (v := .int .i64 c) (Nat.le_refl _) HF5.out.1)
        obtain ⟨⟨x0, x1, x2⟩, xf⟩ := hA5
        have y0 := xf 0
        have y1 := xf 1
        have y2 := xf 2
        obtain ⟨⟨g0, g1, g2⟩, _⟩ := HP.out
        unfold put3 at g0 g1 g2
        clear hW5 xf hA3 hF3 hb5 hb4
        go_wp2_with (go_at_call 51; refine (HMU.out _).mono ?_; rintro e w5 ⟨rfl, rfl⟩)
        refine bodyPost_ret (v := encNd (a, b, c)) (by simp [results, Tryz.results50, go_sem, g0, g1, g2, encNd, encN]) rfl ?_
        rw [HEF.out]
        exact ⟨rfl, HRF.out, HBF.out⟩
end Go.Proofs.YtdpooagnbmpinaaGreatDoor
