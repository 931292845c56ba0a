/- The contract of works. Conditions: none. -/
import Derived.Test.YtibpagmpdgflmaaGreatDoorZYT
import Derived.Test.YtibpagmpdgflmaaGreatDoorZYV
import Derived.Lib.SlBytesConst
namespace Go.Proofs.YtibpagmpdgflmaaGreatDoor
open Go.RowKit Go.Maps
attribute [local go_sem] Oper.semAt_some

/-- Two results are laid. -/
theorem St.pair {W w : World} {M T root N : Nat} {g : GrP} {L : List (Nat × (Nat → Value))} {R : List (Option Addr × List Value)} (h : St W M T root N g L R w) (a0 a1 a2 a3 : Int) (NA : Option Addr) (nn nc : Nat) (BA : Option Addr) (bn bc : Nat) (b0 b1 b2 b3 : Int) (NB : Option Addr) (mn mc : Nat) (BB : Option Addr) (dn dc : Nat) :
    St W M T root N g ((w.heap.size + 1, cellsO' b0 b1 b2 b3 NB mn mc BB dn dc) :: (w.heap.size, cellsO' a0 a1 a2 a3 NA nn nc BA bn bc) :: L) R
      ((w.alloc (.cells #[.int .i64 a0, .int .i64 a1, .int .i64 a2, .int .i64 a3, .slice NA nn nc, .slice BA bn bc] 27)).alloc (.cells #[.int .i64 b0, .int .i64 b1, .int .i64 b2, .int .i64 b3, .slice NB mn mc, .slice BB dn dc] 27)) := by
  have c1 := cellsAt_new w #[.int .i64 a0, .int .i64 a1, .int .i64 a2, .int .i64 a3, .slice NA nn nc, .slice BA bn bc] 27 6 (cellsO' a0 a1 a2 a3 NA nn nc BA bn bc) fun i hi => match i, hi with | 0, _ => rfl | 1, _ => rfl | 2, _ => rfl | 3, _ => rfl | 4, _ => rfl | 5, _ => rfl
  have c2 := cellsAt_new (w.alloc (.cells #[.int .i64 a0, .int .i64 a1, .int .i64 a2, .int .i64 a3, .slice NA nn nc, .slice BA bn bc] 27)) #[.int .i64 b0, .int .i64 b1, .int .i64 b2, .int .i64 b3, .slice NB mn mc, .slice BB dn dc] 27 6 (cellsO' b0 b1 b2 b3 NB mn mc BB dn dc) fun i hi => match i, hi with | 0, _ => rfl | 1, _ => rfl | 2, _ => rfl | 3, _ => rfl | 4, _ => rfl | 5, _ => rfl
  rw [show (w.alloc (.cells #[.int .i64 a0, .int .i64 a1, .int .i64 a2, .int .i64 a3, .slice NA nn nc, .slice BA bn bc] 27)).heap.size = w.heap.size + 1 from by simp] at c2
  refine h.lay (((Below.refl _ _).alloc (Nat.le_refl _) _).alloc (by simp) _) [(w.heap.size + 1, cellsO' b0 b1 b2 b3 NB mn mc BB dn dc), (w.heap.size, cellsO' a0 a1 a2 a3 NA nn nc BA bn bc)] fun x hx => ?_
  rcases List.mem_cons.1 hx with rfl | hx
  · exact ⟨c2, Nat.le_succ _⟩
  · rcases List.mem_cons.1 hx with rfl | hx
    · exact ⟨c1.below (m := w.heap.size + 1) ((Below.refl _ _).alloc (by simp) _) (by omega), Nat.le_refl _⟩
    · cases hx
theorem St.one {W w : World} {M T root N : Nat} {g : GrP} {L : List (Nat × (Nat → Value))} {R : List (Option Addr × List Value)} (h : St W M T root N g L R w) (a0 a1 a2 a3 : Int) (NA : Option Addr) (nn nc : Nat) (BA : Option Addr) (bn bc : Nat) :
    St W M T root N g ((w.heap.size, cellsO' a0 a1 a2 a3 NA nn nc BA bn bc) :: L) R (w.alloc (.cells #[.int .i64 a0, .int .i64 a1, .int .i64 a2, .int .i64 a3, .slice NA nn nc, .slice BA bn bc] 27)) := by
  have c1 := cellsAt_new w #[.int .i64 a0, .int .i64 a1, .int .i64 a2, .int .i64 a3, .slice NA nn nc, .slice BA bn bc] 27 6 (cellsO' a0 a1 a2 a3 NA nn nc BA bn bc) fun i hi => match i, hi with | 0, _ => rfl | 1, _ => rfl | 2, _ => rfl | 3, _ => rfl | 4, _ => rfl | 5, _ => rfl
  refine h.lay ((Below.refl _ _).alloc (Nat.le_refl _) _) [(w.heap.size, cellsO' a0 a1 a2 a3 NA nn nc BA bn bc)] fun x hx => ?_
  rcases List.mem_cons.1 hx with rfl | hx
  · exact ⟨c1, Nat.le_refl _⟩
  · cases hx
theorem num11_any (c : Int) (W : World) : Calls Tryz.prog 14 #[.int .i64 c] W fun e W' => e = .returned (.int .i64 c) ∧ W' = W := by
  go_enter Tryz.func14, Tryz.ntmps14
  go_wp2
  go_ret
  exact ⟨rfl, rfl⟩
def regionOf : Code → Nat → Option (Array Oper)
  | .region i ops _, n => if i = n then some ops else none
  | .seq a b, n => match regionOf a n with | some x => some x | none => regionOf b n
  | .cond _ a b, n => match regionOf a n with | some x => some x | none => regionOf b n
  | .block _ c, n => regionOf c n
  | .loop c, n => regionOf c n
  | .scope c, n => regionOf c n
  | _, _ => none
def operNone : Oper := { dst := none, op := .move (.tmp 0), type := 0, pos := "", after := #[], guard := none }
/-- What works does at its end. -/
noncomputable def opsW : Array Oper := ((Tryz.f10.body.bind fun c => regionOf c 9).getD #[])
theorem opsW_size : opsW.size = 113 := by kernel_rfl
theorem opsW_at (i : Nat) (h : i < 113) : opsW[i]? = some (opsW.getD i operNone) := by
  rw [Array.getD_eq_getD_getElem?, Array.getElem?_eq_getElem (by rw [opsW_size]; exact h)]; rfl
theorem whichever_region_as {F : Fence} {n : Nat} {P : Program} {Q : Exit → Act → World → Prop} {ops : Array Oper} (ops' : Array Oper) (k : Nat) (h : ops = ops') (hk : ops'.size = k) (S : World → Prop) (late : List Nat) {id : Nat} {a : Act} {w : World} (hm : P.follows .mixedOrders = true)
    (H : Whichever F n P ops' Q .any S late k (Array.replicate k false) a w.drew) : (Code.region id ops true).wpIn F n P Q a w := by
  subst h hk
  exact whichever_region S late hm H
set_option maxRecDepth 100000 in
set_option maxHeartbeats 80000000 in
theorem works11_any (W : World) :
    Calls Tryz.prog 10 #[] W fun e W' => e = .returned (.bool true) ∧ Below W.heap.size W W' := by
  go_enter Tryz.func10, Tryz.ntmps10
  go_wp2_with fail
  refine (mnew_any W).mono ?_
  rintro e w1 ⟨M, T, root, m, rfl, h1, h2, h3, _, h4, h5⟩
  have HS1 : Hid (St W M T root 0 (gNew root m) [] [] w1) := ⟨h1, h2, h3, h5, h4, fun _ h => (nomatch h), fun _ h => (nomatch h)⟩
  clear h1 h2 h3 h4 h5
  go_wp2_with fail
  refine (wk_make (by omega) HS1.out).mono ?_
  rintro e w2 ⟨rfl, F, hF, h⟩
  have HS2 := Lib.hid h
  clear h
  have hcv := Lib.run_convert_bytes_const (P := Tryz.prog) w2 25 5 #[.int .u8 104, .int .u8 105] 2 2 Tryz.underlyingBytes Tryz.underlyingByte
  go_wp2_with fail
  have hb3 : Below w2.heap.size w2 (w2.alloc (.cells #[.int .u8 104, .int .u8 105] 5 (2, 3))) := (Below.refl _ _).alloc (Nat.le_refl _) _
  have hr3 : RowAt (w2.alloc (.cells #[.int .u8 104, .int .u8 105] 5 (2, 3))) (some ⟨w2.heap.size, 0, none⟩) ([104, 105].map encB) := fun _ => ⟨w2.heap.size, 0, rfl, by simp, fun k u hu => by
    rw [World.cell?_alloc_mark, Nat.zero_add]
    match k, hu with
    | 0, hu => exact hu
    | 1, hu => exact hu⟩
  refine (wk_write (A := some ⟨w2.heap.size, 0, none⟩) (by omega) hF (kidDF F) hr3 (HS2.out.below hb3)).mono ?_
  rintro e w4 ⟨rfl, h⟩
  have HS4 := Lib.hid h
  clear h hb3 hcv hr3
  go_wp2_with fail
  obtain ⟨w5, hw5⟩ : ∃ w, (w4.alloc (.cells #[.int .i64 0, .int .i64 0, .int .i64 0, .int .i64 0, .slice none 0 0, .slice none 0 0] 27)).alloc (.cells #[.int .i64 0, .int .i64 0, .int .i64 0, .int .i64 0, .slice none 0 0, .slice none 0 0] 27) = w := ⟨_, rfl⟩
  have h := HS4.out.pair 0 0 0 0 none 0 0 none 0 0 0 0 0 0 none 0 0 none 0 0
  rw [hw5] at h ⊢
  have HS5 := Lib.hid h
  clear h hw5
  refine (wk_read (by omega) hF (kidDF F) HS5.out).mono ?_
  rintro e w6 ⟨BA, bc, rfl, hbc1, hbc2, h⟩
  have HS6 := Lib.hid h
  clear h
  go_wp2_with fail
  refine (wk_stat (p := sF) (l := 1) (n := 4) rfl rfl (by omega) hF readF small_bytes (by kernel_rfl) (kidDF F) HS6.out).mono ?_
  rintro e w7 ⟨rfl, h⟩
  have HS7 := Lib.hid h
  clear h
  go_wp2_with fail
  obtain ⟨w8, hw8⟩ : ∃ w, (w7.alloc (.cells #[.int .i64 0, .int .i64 0, .int .i64 0, .int .i64 0, .slice none 0 0, .slice BA 4 bc] 27)).alloc (.cells #[.int .i64 0, .int .i64 1, .int .i64 1, .int .i64 4, .slice none 0 0, .slice none 0 0] 27) = w := ⟨_, rfl⟩
  have h := HS7.out.pair 0 0 0 0 none 0 0 BA 4 bc 0 1 1 4 none 0 0 none 0 0
  rw [hw8] at h ⊢
  have HS8 := Lib.hid h
  clear h hw8
  refine (wk_list (by omega) hF HS8.out).mono ?_
  rintro e w9 ⟨NA, nc, rfl, hnc1, hnc2, h⟩
  have HS9 := Lib.hid h
  clear h
  go_wp2_with fail
  refine (wk_statR (by omega) hF HS9.out).mono ?_
  rintro e w10 ⟨rfl, h⟩
  have HS10 := Lib.hid h
  clear h
  go_wp2_with fail
  obtain ⟨w11, hw11⟩ : ∃ w, (w10.alloc (.cells #[.int .i64 0, .int .i64 0, .int .i64 0, .int .i64 0, .slice NA 1 nc, .slice none 0 0] 27)).alloc (.cells #[.int .i64 0, .int .i64 2, .int .i64 1, .int .i64 1, .slice none 0 0, .slice none 0 0] 27) = w := ⟨_, rfl⟩
  have h := HS10.out.pair 0 0 0 0 NA 1 nc none 0 0 0 2 1 1 none 0 0 none 0 0
  rw [hw11] at h ⊢
  have HS11 := Lib.hid h
  clear h hw11
  refine (wk_cut (by omega) hF (kidDF F) HS11.out).mono ?_
  rintro e w12 ⟨rfl, h⟩
  have HS12 := Lib.hid h
  clear h
  go_wp2_with fail
  refine (wk_bad (k := 10) (a := -1) (n := 0) (z := 2) (p := sF) (by decide) small_bytes (by decide) (by decide) (by kernel_rfl) (by decide) HS12.out).mono ?_
  rintro e w13 ⟨rfl, h⟩
  have HS13 := Lib.hid h
  clear h
  go_wp2_with fail
  obtain ⟨w14, hw14⟩ : ∃ w, (w13.alloc (.cells #[.int .i64 0, .int .i64 0, .int .i64 0, .int .i64 0, .slice none 0 0, .slice none 0 0] 27)).alloc (.cells #[.int .i64 2, .int .i64 0, .int .i64 0, .int .i64 0, .slice none 0 0, .slice none 0 0] 27) = w := ⟨_, rfl⟩
  have h := HS13.out.pair 0 0 0 0 none 0 0 none 0 0 2 0 0 0 none 0 0 none 0 0
  rw [hw14] at h ⊢
  have HS14 := Lib.hid h
  clear h hw14
  refine (wk_readX (by omega) hF HS14.out).mono ?_
  rintro e w15 ⟨rfl, h⟩
  have HS15 := Lib.hid h
  clear h
  go_wp2_with fail
  refine (wk_bad (k := 11) (a := 0) (n := 449) (z := 190) (p := sF) (by decide) small_bytes (by decide) (by decide) (by kernel_rfl) (by decide) HS15.out).mono ?_
  rintro e w16 ⟨rfl, h⟩
  have HS16 := Lib.hid h
  clear h
  go_wp2_with fail
  obtain ⟨w17, hw17⟩ : ∃ w, (w16.alloc (.cells #[.int .i64 202, .int .i64 0, .int .i64 0, .int .i64 0, .slice none 0 0, .slice none 0 0] 27)).alloc (.cells #[.int .i64 190, .int .i64 0, .int .i64 0, .int .i64 0, .slice none 0 0, .slice none 0 0] 27) = w := ⟨_, rfl⟩
  have h := HS16.out.pair 202 0 0 0 none 0 0 none 0 0 190 0 0 0 none 0 0 none 0 0
  rw [hw17] at h ⊢
  have HS17 := Lib.hid h
  clear h hw17
  refine (wk_bad (k := 0) (a := 0) (n := 0) (z := 2) (p := sF) (by decide) small_bytes (by decide) (by decide) (by kernel_rfl) (by decide) HS17.out).mono ?_
  rintro e w18 ⟨rfl, h⟩
  have HS18 := Lib.hid h
  clear h
  go_wp2_with fail
  refine (wk_link (by omega) hF HS18.out).mono ?_
  rintro e w19 ⟨rfl, h⟩
  have HS19 := Lib.hid h
  clear h
  go_wp2_with fail
  obtain ⟨w20, hw20⟩ : ∃ w, (w19.alloc (.cells #[.int .i64 2, .int .i64 0, .int .i64 0, .int .i64 0, .slice none 0 0, .slice none 0 0] 27)).alloc (.cells #[.int .i64 0, .int .i64 0, .int .i64 0, .int .i64 0, .slice none 0 0, .slice none 0 0] 27) = w := ⟨_, rfl⟩
  have h := HS19.out.pair 2 0 0 0 none 0 0 none 0 0 0 0 0 0 none 0 0 none 0 0
  rw [hw20] at h ⊢
  have HS20 := Lib.hid h
  clear h hw20
  refine (wk_stat (p := sG) (l := 2) (n := 1) rfl rfl (by omega) hF readG small_bytes (by kernel_rfl) (kidDFG F) HS20.out).mono ?_
  rintro e w21 ⟨rfl, h⟩
  have HS21 := Lib.hid h
  clear h
  obtain ⟨w22, hw22⟩ : ∃ w, w21.alloc (.cells #[.int .i64 0, .int .i64 1, .int .i64 2, .int .i64 1, .slice none 0 0, .slice none 0 0] 27) = w := ⟨_, rfl⟩
  have h := HS21.out.one 0 1 2 1 none 0 0 none 0 0
  have cr : (w21.alloc (.cells #[.int .i64 0, .int .i64 1, .int .i64 2, .int .i64 1, .slice none 0 0, .slice none 0 0] 27)).cell? ⟨w4.heap.size, 0, none⟩ = some (.int .i64 0) := (h.ls _ (.tail _ (.tail _ (.tail _ (.tail _ (.tail _ (.tail _ (.tail _ (.tail _ (.tail _ (.tail _ (.tail _ (.tail _ (.head _)))))))))))))).1.1 0 (by omega)
  rw [hw22] at h
  have HW22 := Lib.hid hw22
  clear hw22
  have HS22 := Lib.hid h
  have H := h
  clear h
  have H2_0 : Hid (∀ w, Below w22.heap.size w22 w → w.cell? ⟨w4.heap.size, 0, none⟩ = some (.int .i64 0)) := fun w hb => (hb.cell (p := ⟨w4.heap.size, 0, none⟩) (H.ls _ (.tail _ (.tail _ (.tail _ (.tail _ (.tail _ (.tail _ (.tail _ (.tail _ (.tail _ (.tail _ (.tail _ (.tail _ (.head _)))))))))))))).2.1).trans ((H.ls _ (.tail _ (.tail _ (.tail _ (.tail _ (.tail _ (.tail _ (.tail _ (.tail _ (.tail _ (.tail _ (.tail _ (.tail _ (.head _)))))))))))))).1.1 0 (by omega))
  have H3_0 : Hid (∀ w, Below w22.heap.size w22 w → w.cell? ⟨w4.heap.size + 1, 0, none⟩ = some (.int .i64 0)) := fun w hb => (hb.cell (p := ⟨w4.heap.size + 1, 0, none⟩) (H.ls _ (.tail _ (.tail _ (.tail _ (.tail _ (.tail _ (.tail _ (.tail _ (.tail _ (.tail _ (.tail _ (.tail _ (.head _))))))))))))).2.1).trans ((H.ls _ (.tail _ (.tail _ (.tail _ (.tail _ (.tail _ (.tail _ (.tail _ (.tail _ (.tail _ (.tail _ (.tail _ (.head _))))))))))))).1.1 0 (by omega))
  have H4_0 : Hid (∀ w, Below w22.heap.size w22 w → w.cell? ⟨w7.heap.size, 0, none⟩ = some (.int .i64 0)) := fun w hb => (hb.cell (p := ⟨w7.heap.size, 0, none⟩) (H.ls _ (.tail _ (.tail _ (.tail _ (.tail _ (.tail _ (.tail _ (.tail _ (.tail _ (.tail _ (.tail _ (.head _)))))))))))).2.1).trans ((H.ls _ (.tail _ (.tail _ (.tail _ (.tail _ (.tail _ (.tail _ (.tail _ (.tail _ (.tail _ (.tail _ (.head _)))))))))))).1.1 0 (by omega))
  have H5_0 : Hid (∀ w, Below w22.heap.size w22 w → w.cell? ⟨w7.heap.size + 1, 0, none⟩ = some (.int .i64 0)) := fun w hb => (hb.cell (p := ⟨w7.heap.size + 1, 0, none⟩) (H.ls _ (.tail _ (.tail _ (.tail _ (.tail _ (.tail _ (.tail _ (.tail _ (.tail _ (.tail _ (.head _))))))))))).2.1).trans ((H.ls _ (.tail _ (.tail _ (.tail _ (.tail _ (.tail _ (.tail _ (.tail _ (.tail _ (.tail _ (.head _))))))))))).1.1 0 (by omega))
  have H6_0 : Hid (∀ w, Below w22.heap.size w22 w → w.cell? ⟨w10.heap.size, 0, none⟩ = some (.int .i64 0)) := fun w hb => (hb.cell (p := ⟨w10.heap.size, 0, none⟩) (H.ls _ (.tail _ (.tail _ (.tail _ (.tail _ (.tail _ (.tail _ (.tail _ (.tail _ (.head _)))))))))).2.1).trans ((H.ls _ (.tail _ (.tail _ (.tail _ (.tail _ (.tail _ (.tail _ (.tail _ (.tail _ (.head _)))))))))).1.1 0 (by omega))
  have H7_0 : Hid (∀ w, Below w22.heap.size w22 w → w.cell? ⟨w10.heap.size + 1, 0, none⟩ = some (.int .i64 0)) := fun w hb => (hb.cell (p := ⟨w10.heap.size + 1, 0, none⟩) (H.ls _ (.tail _ (.tail _ (.tail _ (.tail _ (.tail _ (.tail _ (.tail _ (.head _))))))))).2.1).trans ((H.ls _ (.tail _ (.tail _ (.tail _ (.tail _ (.tail _ (.tail _ (.tail _ (.head _))))))))).1.1 0 (by omega))
  have H8_0 : Hid (∀ w, Below w22.heap.size w22 w → w.cell? ⟨w13.heap.size, 0, none⟩ = some (.int .i64 0)) := fun w hb => (hb.cell (p := ⟨w13.heap.size, 0, none⟩) (H.ls _ (.tail _ (.tail _ (.tail _ (.tail _ (.tail _ (.tail _ (.head _)))))))).2.1).trans ((H.ls _ (.tail _ (.tail _ (.tail _ (.tail _ (.tail _ (.tail _ (.head _)))))))).1.1 0 (by omega))
  have H13_0 : Hid (∀ w, Below w22.heap.size w22 w → w.cell? ⟨w19.heap.size + 1, 0, none⟩ = some (.int .i64 0)) := fun w hb => (hb.cell (p := ⟨w19.heap.size + 1, 0, none⟩) (H.ls _ (.tail _ (.head _))).2.1).trans ((H.ls _ (.tail _ (.head _))).1.1 0 (by omega))
  have H14_0 : Hid (∀ w, Below w22.heap.size w22 w → w.cell? ⟨w21.heap.size, 0, none⟩ = some (.int .i64 0)) := fun w hb => (hb.cell (p := ⟨w21.heap.size, 0, none⟩) (H.ls _ (.head _)).2.1).trans ((H.ls _ (.head _)).1.1 0 (by omega))
  have H4_5 : Hid (∀ w, Below w22.heap.size w22 w → w.cell? ⟨w7.heap.size, 5, none⟩ = some (.slice BA 4 bc)) := fun w hb => (hb.cell (p := ⟨w7.heap.size, 5, none⟩) (H.ls _ (.tail _ (.tail _ (.tail _ (.tail _ (.tail _ (.tail _ (.tail _ (.tail _ (.tail _ (.tail _ (.head _)))))))))))).2.1).trans ((H.ls _ (.tail _ (.tail _ (.tail _ (.tail _ (.tail _ (.tail _ (.tail _ (.tail _ (.tail _ (.tail _ (.head _)))))))))))).1.1 5 (by omega))
  have H5_1 : Hid (∀ w, Below w22.heap.size w22 w → w.cell? ⟨w7.heap.size + 1, 1, none⟩ = some (.int .i64 1)) := fun w hb => (hb.cell (p := ⟨w7.heap.size + 1, 1, none⟩) (H.ls _ (.tail _ (.tail _ (.tail _ (.tail _ (.tail _ (.tail _ (.tail _ (.tail _ (.tail _ (.head _))))))))))).2.1).trans ((H.ls _ (.tail _ (.tail _ (.tail _ (.tail _ (.tail _ (.tail _ (.tail _ (.tail _ (.tail _ (.head _))))))))))).1.1 1 (by omega))
  have H5_2 : Hid (∀ w, Below w22.heap.size w22 w → w.cell? ⟨w7.heap.size + 1, 2, none⟩ = some (.int .i64 1)) := fun w hb => (hb.cell (p := ⟨w7.heap.size + 1, 2, none⟩) (H.ls _ (.tail _ (.tail _ (.tail _ (.tail _ (.tail _ (.tail _ (.tail _ (.tail _ (.tail _ (.head _))))))))))).2.1).trans ((H.ls _ (.tail _ (.tail _ (.tail _ (.tail _ (.tail _ (.tail _ (.tail _ (.tail _ (.tail _ (.head _))))))))))).1.1 2 (by omega))
  have H5_3 : Hid (∀ w, Below w22.heap.size w22 w → w.cell? ⟨w7.heap.size + 1, 3, none⟩ = some (.int .i64 4)) := fun w hb => (hb.cell (p := ⟨w7.heap.size + 1, 3, none⟩) (H.ls _ (.tail _ (.tail _ (.tail _ (.tail _ (.tail _ (.tail _ (.tail _ (.tail _ (.tail _ (.head _))))))))))).2.1).trans ((H.ls _ (.tail _ (.tail _ (.tail _ (.tail _ (.tail _ (.tail _ (.tail _ (.tail _ (.tail _ (.head _))))))))))).1.1 3 (by omega))
  have H6_4 : Hid (∀ w, Below w22.heap.size w22 w → w.cell? ⟨w10.heap.size, 4, none⟩ = some (.slice NA 1 nc)) := fun w hb => (hb.cell (p := ⟨w10.heap.size, 4, none⟩) (H.ls _ (.tail _ (.tail _ (.tail _ (.tail _ (.tail _ (.tail _ (.tail _ (.tail _ (.head _)))))))))).2.1).trans ((H.ls _ (.tail _ (.tail _ (.tail _ (.tail _ (.tail _ (.tail _ (.tail _ (.tail _ (.head _)))))))))).1.1 4 (by omega))
  have H7_1 : Hid (∀ w, Below w22.heap.size w22 w → w.cell? ⟨w10.heap.size + 1, 1, none⟩ = some (.int .i64 2)) := fun w hb => (hb.cell (p := ⟨w10.heap.size + 1, 1, none⟩) (H.ls _ (.tail _ (.tail _ (.tail _ (.tail _ (.tail _ (.tail _ (.tail _ (.head _))))))))).2.1).trans ((H.ls _ (.tail _ (.tail _ (.tail _ (.tail _ (.tail _ (.tail _ (.tail _ (.head _))))))))).1.1 1 (by omega))
  have H7_2 : Hid (∀ w, Below w22.heap.size w22 w → w.cell? ⟨w10.heap.size + 1, 2, none⟩ = some (.int .i64 1)) := fun w hb => (hb.cell (p := ⟨w10.heap.size + 1, 2, none⟩) (H.ls _ (.tail _ (.tail _ (.tail _ (.tail _ (.tail _ (.tail _ (.tail _ (.head _))))))))).2.1).trans ((H.ls _ (.tail _ (.tail _ (.tail _ (.tail _ (.tail _ (.tail _ (.tail _ (.head _))))))))).1.1 2 (by omega))
  have H7_3 : Hid (∀ w, Below w22.heap.size w22 w → w.cell? ⟨w10.heap.size + 1, 3, none⟩ = some (.int .i64 1)) := fun w hb => (hb.cell (p := ⟨w10.heap.size + 1, 3, none⟩) (H.ls _ (.tail _ (.tail _ (.tail _ (.tail _ (.tail _ (.tail _ (.tail _ (.head _))))))))).2.1).trans ((H.ls _ (.tail _ (.tail _ (.tail _ (.tail _ (.tail _ (.tail _ (.tail _ (.head _))))))))).1.1 3 (by omega))
  have H9_0 : Hid (∀ w, Below w22.heap.size w22 w → w.cell? ⟨w13.heap.size + 1, 0, none⟩ = some (.int .i64 2)) := fun w hb => (hb.cell (p := ⟨w13.heap.size + 1, 0, none⟩) (H.ls _ (.tail _ (.tail _ (.tail _ (.tail _ (.tail _ (.head _))))))).2.1).trans ((H.ls _ (.tail _ (.tail _ (.tail _ (.tail _ (.tail _ (.head _))))))).1.1 0 (by omega))
  have H10_0 : Hid (∀ w, Below w22.heap.size w22 w → w.cell? ⟨w16.heap.size, 0, none⟩ = some (.int .i64 202)) := fun w hb => (hb.cell (p := ⟨w16.heap.size, 0, none⟩) (H.ls _ (.tail _ (.tail _ (.tail _ (.tail _ (.head _)))))).2.1).trans ((H.ls _ (.tail _ (.tail _ (.tail _ (.tail _ (.head _)))))).1.1 0 (by omega))
  have H11_0 : Hid (∀ w, Below w22.heap.size w22 w → w.cell? ⟨w16.heap.size + 1, 0, none⟩ = some (.int .i64 190)) := fun w hb => (hb.cell (p := ⟨w16.heap.size + 1, 0, none⟩) (H.ls _ (.tail _ (.tail _ (.tail _ (.head _))))).2.1).trans ((H.ls _ (.tail _ (.tail _ (.tail _ (.head _))))).1.1 0 (by omega))
  have H12_0 : Hid (∀ w, Below w22.heap.size w22 w → w.cell? ⟨w19.heap.size, 0, none⟩ = some (.int .i64 2)) := fun w hb => (hb.cell (p := ⟨w19.heap.size, 0, none⟩) (H.ls _ (.tail _ (.tail _ (.head _)))).2.1).trans ((H.ls _ (.tail _ (.tail _ (.head _)))).1.1 0 (by omega))
  have H14_2 : Hid (∀ w, Below w22.heap.size w22 w → w.cell? ⟨w21.heap.size, 2, none⟩ = some (.int .i64 2)) := fun w hb => (hb.cell (p := ⟨w21.heap.size, 2, none⟩) (H.ls _ (.head _)).2.1).trans ((H.ls _ (.head _)).1.1 2 (by omega))
  have H14_3 : Hid (∀ w, Below w22.heap.size w22 w → w.cell? ⟨w21.heap.size, 3, none⟩ = some (.int .i64 1)) := fun w hb => (hb.cell (p := ⟨w21.heap.size, 3, none⟩) (H.ls _ (.head _)).2.1).trans ((H.ls _ (.head _)).1.1 3 (by omega))
  have HCV : Hid (∀ w, Below w22.heap.size w22 w → (convert 25 9 (.slice BA 4 bc)).run Tryz.prog w = .ok (.string ⟨#[0, 0, 104, 105]⟩) w) := fun w hb => conv_row (l := [0, 0, 104, 105]) rfl ((H.rs _ (.tail _ (.head _))).1.below hb)
  have HROW : Hid (∀ w, Below w22.heap.size w22 w → RowAt w NA [.string ⟨#[102]⟩]) := fun w hb => (H.rs _ (.head _)).1.below hb
  have HBL := Lib.hid H.bl
  clear H
  go_wp2_with fail
  rw [HW22.out]
  have hmx : Tryz.prog.follows .mixedOrders = true := by kernel_rfl
  rename_i K hK
  have HK := Lib.hid hK
  clear hK cr
  clear HS1 HS2 HS4 HS5 HS6 HS7 HS8 HS9 HS10 HS11 HS12 HS13 HS14 HS15 HS16 HS17 HS18 HS19 HS20 HS21 HS22 HW22 hF
  generalize w4.heap.size = x4 at *
  generalize w7.heap.size = x7 at *
  generalize w10.heap.size = x10 at *
  generalize w13.heap.size = x13 at *
  generalize w16.heap.size = x16 at *
  generalize w19.heap.size = x19 at *
  generalize w21.heap.size = x21 at *
  refine (wpIn_wide (n := 10)).1 ?_
  refine whichever_region_as opsW 113 (by kernel_rfl) opsW_size (fun w => Below w22.heap.size w22 w) [] hmx ?_
  have hS : Below w22.heap.size w22 w22.drew := (Below.refl _ _).drew
  generalize w22.drew = w23 at *
  have hwr : IntKind.i64.wrap 0 = 0 := by decide
  have hi := opsW_at 0 (by decide)
  conv at hi => rhs; arg 1; whnf
  refine whichever_take 0 (.pointer (some ⟨x4, 0, none⟩)) [] hi (by kernel_rfl) (fun _ _ _ h => h) hS (by kernel_rfl) (fun w hw => ?_) ?_
  · clear hi
    constructor <;> go_simp
  clear hi
  have hi := opsW_at 1 (by decide)
  conv at hi => rhs; arg 1; whnf
  refine whichever_take 1 (.int .i64 0) [] hi (by kernel_rfl) (fun _ _ _ h => h) hS (by kernel_rfl) (fun w hw => ?_) ?_
  · clear hi
    have c := H2_0.out w hw
    constructor <;> go_simp
  clear hi
  have hi := opsW_at 3 (by decide)
  conv at hi => rhs; arg 1; whnf
  refine whichever_take 3 (.pointer (some ⟨x4 + 1, 0, none⟩)) [] hi (by kernel_rfl) (fun _ _ _ h => h) hS (by kernel_rfl) (fun w hw => ?_) ?_
  · clear hi
    constructor <;> go_simp
  clear hi
  have hi := opsW_at 4 (by decide)
  conv at hi => rhs; arg 1; whnf
  refine whichever_take 4 (.int .i64 0) [] hi (by kernel_rfl) (fun _ _ _ h => h) hS (by kernel_rfl) (fun w hw => ?_) ?_
  · clear hi
    have c := H3_0.out w hw
    constructor <;> go_simp
  clear hi
  have hi := opsW_at 7 (by decide)
  conv at hi => rhs; arg 1; whnf
  refine whichever_take 7 (.pointer (some ⟨x7, 0, none⟩)) [] hi (by kernel_rfl) (fun _ _ _ h => h) hS (by kernel_rfl) (fun w hw => ?_) ?_
  · clear hi
    constructor <;> go_simp
  clear hi
  have hi := opsW_at 8 (by decide)
  conv at hi => rhs; arg 1; whnf
  refine whichever_take 8 (.int .i64 0) [] hi (by kernel_rfl) (fun _ _ _ h => h) hS (by kernel_rfl) (fun w hw => ?_) ?_
  · clear hi
    have c := H4_0.out w hw
    constructor <;> go_simp
  clear hi
  have hi := opsW_at 11 (by decide)
  conv at hi => rhs; arg 1; whnf
  refine whichever_take 11 (.pointer (some ⟨x7 + 1, 0, none⟩)) [] hi (by kernel_rfl) (fun _ _ _ h => h) hS (by kernel_rfl) (fun w hw => ?_) ?_
  · clear hi
    constructor <;> go_simp
  clear hi
  have hi := opsW_at 12 (by decide)
  conv at hi => rhs; arg 1; whnf
  refine whichever_take 12 (.int .i64 0) [] hi (by kernel_rfl) (fun _ _ _ h => h) hS (by kernel_rfl) (fun w hw => ?_) ?_
  · clear hi
    have c := H5_0.out w hw
    constructor <;> go_simp
  clear hi
  have hi := opsW_at 15 (by decide)
  conv at hi => rhs; arg 1; whnf
  refine whichever_take 15 (.pointer (some ⟨x10, 0, none⟩)) [] hi (by kernel_rfl) (fun _ _ _ h => h) hS (by kernel_rfl) (fun w hw => ?_) ?_
  · clear hi
    constructor <;> go_simp
  clear hi
  have hi := opsW_at 16 (by decide)
  conv at hi => rhs; arg 1; whnf
  refine whichever_take 16 (.int .i64 0) [] hi (by kernel_rfl) (fun _ _ _ h => h) hS (by kernel_rfl) (fun w hw => ?_) ?_
  · clear hi
    have c := H6_0.out w hw
    constructor <;> go_simp
  clear hi
  have hi := opsW_at 19 (by decide)
  conv at hi => rhs; arg 1; whnf
  refine whichever_take 19 (.pointer (some ⟨x10 + 1, 0, none⟩)) [] hi (by kernel_rfl) (fun _ _ _ h => h) hS (by kernel_rfl) (fun w hw => ?_) ?_
  · clear hi
    constructor <;> go_simp
  clear hi
  have hi := opsW_at 20 (by decide)
  conv at hi => rhs; arg 1; whnf
  refine whichever_take 20 (.int .i64 0) [] hi (by kernel_rfl) (fun _ _ _ h => h) hS (by kernel_rfl) (fun w hw => ?_) ?_
  · clear hi
    have c := H7_0.out w hw
    constructor <;> go_simp
  clear hi
  have hi := opsW_at 23 (by decide)
  conv at hi => rhs; arg 1; whnf
  refine whichever_take 23 (.pointer (some ⟨x13, 0, none⟩)) [] hi (by kernel_rfl) (fun _ _ _ h => h) hS (by kernel_rfl) (fun w hw => ?_) ?_
  · clear hi
    constructor <;> go_simp
  clear hi
  have hi := opsW_at 24 (by decide)
  conv at hi => rhs; arg 1; whnf
  refine whichever_take 24 (.int .i64 0) [] hi (by kernel_rfl) (fun _ _ _ h => h) hS (by kernel_rfl) (fun w hw => ?_) ?_
  · clear hi
    have c := H8_0.out w hw
    constructor <;> go_simp
  clear hi
  have hi := opsW_at 27 (by decide)
  conv at hi => rhs; arg 1; whnf
  refine whichever_take 27 (.pointer (some ⟨x19 + 1, 0, none⟩)) [] hi (by kernel_rfl) (fun _ _ _ h => h) hS (by kernel_rfl) (fun w hw => ?_) ?_
  · clear hi
    constructor <;> go_simp
  clear hi
  have hi := opsW_at 28 (by decide)
  conv at hi => rhs; arg 1; whnf
  refine whichever_take 28 (.int .i64 0) [] hi (by kernel_rfl) (fun _ _ _ h => h) hS (by kernel_rfl) (fun w hw => ?_) ?_
  · clear hi
    have c := H13_0.out w hw
    constructor <;> go_simp
  clear hi
  have hi := opsW_at 31 (by decide)
  conv at hi => rhs; arg 1; whnf
  refine whichever_take 31 (.pointer (some ⟨x21, 0, none⟩)) [] hi (by kernel_rfl) (fun _ _ _ h => h) hS (by kernel_rfl) (fun w hw => ?_) ?_
  · clear hi
    constructor <;> go_simp
  clear hi
  have hi := opsW_at 32 (by decide)
  conv at hi => rhs; arg 1; whnf
  refine whichever_take 32 (.int .i64 0) [] hi (by kernel_rfl) (fun _ _ _ h => h) hS (by kernel_rfl) (fun w hw => ?_) ?_
  · clear hi
    have c := H14_0.out w hw
    constructor <;> go_simp
  clear hi
  have hi := opsW_at 2 (by decide)
  conv at hi => rhs; arg 1; whnf
  refine whichever_next 2 hi (by kernel_rfl) (by kernel_rfl) ?_
  clear hi
  go_simp
  refine ⟨trivial, callsIn_wide.2 ((num11_any _ _).mono ?_)⟩
  rintro e w ⟨rfl, rfl⟩
  simp only
  refine ⟨hS, ?_⟩
  have hi := opsW_at 5 (by decide)
  conv at hi => rhs; arg 1; whnf
  refine whichever_next 5 hi (by kernel_rfl) (by kernel_rfl) ?_
  clear hi
  go_simp
  refine ⟨trivial, callsIn_wide.2 ((num11_any _ _).mono ?_)⟩
  rintro e w ⟨rfl, rfl⟩
  simp only
  refine ⟨hS, ?_⟩
  have hi := opsW_at 6 (by decide)
  conv at hi => rhs; arg 1; whnf
  refine whichever_take 6 (.int .i64 0) [] hi (by kernel_rfl) (fun _ _ _ h => h) hS (by kernel_rfl) (fun w hw => ?_) ?_
  · clear hi
    constructor <;> go_simp
  clear hi
  have hi := opsW_at 9 (by decide)
  conv at hi => rhs; arg 1; whnf
  refine whichever_next 9 hi (by kernel_rfl) (by kernel_rfl) ?_
  clear hi
  go_simp
  refine ⟨trivial, callsIn_wide.2 ((num11_any _ _).mono ?_)⟩
  rintro e w ⟨rfl, rfl⟩
  simp only
  refine ⟨hS, ?_⟩
  have hi := opsW_at 10 (by decide)
  conv at hi => rhs; arg 1; whnf
  refine whichever_take 10 (.int .i64 0) [] hi (by kernel_rfl) (fun _ _ _ h => h) hS (by kernel_rfl) (fun w hw => ?_) ?_
  · clear hi
    constructor <;> go_simp
  clear hi
  have hi := opsW_at 13 (by decide)
  conv at hi => rhs; arg 1; whnf
  refine whichever_next 13 hi (by kernel_rfl) (by kernel_rfl) ?_
  clear hi
  go_simp
  refine ⟨trivial, callsIn_wide.2 ((num11_any _ _).mono ?_)⟩
  rintro e w ⟨rfl, rfl⟩
  simp only
  refine ⟨hS, ?_⟩
  have hi := opsW_at 14 (by decide)
  conv at hi => rhs; arg 1; whnf
  refine whichever_take 14 (.int .i64 0) [] hi (by kernel_rfl) (fun _ _ _ h => h) hS (by kernel_rfl) (fun w hw => ?_) ?_
  · clear hi
    constructor <;> go_simp
  clear hi
  have hi := opsW_at 17 (by decide)
  conv at hi => rhs; arg 1; whnf
  refine whichever_next 17 hi (by kernel_rfl) (by kernel_rfl) ?_
  clear hi
  go_simp
  refine ⟨trivial, callsIn_wide.2 ((num11_any _ _).mono ?_)⟩
  rintro e w ⟨rfl, rfl⟩
  simp only
  refine ⟨hS, ?_⟩
  have hi := opsW_at 18 (by decide)
  conv at hi => rhs; arg 1; whnf
  refine whichever_take 18 (.int .i64 0) [] hi (by kernel_rfl) (fun _ _ _ h => h) hS (by kernel_rfl) (fun w hw => ?_) ?_
  · clear hi
    constructor <;> go_simp
  clear hi
  have hi := opsW_at 21 (by decide)
  conv at hi => rhs; arg 1; whnf
  refine whichever_next 21 hi (by kernel_rfl) (by kernel_rfl) ?_
  clear hi
  go_simp
  refine ⟨trivial, callsIn_wide.2 ((num11_any _ _).mono ?_)⟩
  rintro e w ⟨rfl, rfl⟩
  simp only
  refine ⟨hS, ?_⟩
  have hi := opsW_at 22 (by decide)
  conv at hi => rhs; arg 1; whnf
  refine whichever_take 22 (.int .i64 0) [] hi (by kernel_rfl) (fun _ _ _ h => h) hS (by kernel_rfl) (fun w hw => ?_) ?_
  · clear hi
    constructor <;> go_simp
  clear hi
  have hi := opsW_at 25 (by decide)
  conv at hi => rhs; arg 1; whnf
  refine whichever_next 25 hi (by kernel_rfl) (by kernel_rfl) ?_
  clear hi
  go_simp
  refine ⟨trivial, callsIn_wide.2 ((num11_any _ _).mono ?_)⟩
  rintro e w ⟨rfl, rfl⟩
  simp only
  refine ⟨hS, ?_⟩
  as_aux_lemma =>
   have hi := opsW_at 26 (by decide)
   conv at hi => rhs; arg 1; whnf
   refine whichever_take 26 (.int .i64 0) [] hi (by kernel_rfl) (fun _ _ _ h => h) hS (by kernel_rfl) (fun w hw => ?_) ?_
   · clear hi
     constructor <;> go_simp
   clear hi
   have hi := opsW_at 29 (by decide)
   conv at hi => rhs; arg 1; whnf
   refine whichever_next 29 hi (by kernel_rfl) (by kernel_rfl) ?_
   clear hi
   go_simp
   refine ⟨trivial, callsIn_wide.2 ((num11_any _ _).mono ?_)⟩
   rintro e w ⟨rfl, rfl⟩
   simp only
   refine ⟨hS, ?_⟩
   have hi := opsW_at 30 (by decide)
   conv at hi => rhs; arg 1; whnf
   refine whichever_take 30 (.int .i64 0) [] hi (by kernel_rfl) (fun _ _ _ h => h) hS (by kernel_rfl) (fun w hw => ?_) ?_
   · clear hi
     constructor <;> go_simp
   clear hi
   have hi := opsW_at 33 (by decide)
   conv at hi => rhs; arg 1; whnf
   refine whichever_next 33 hi (by kernel_rfl) (by kernel_rfl) ?_
   clear hi
   go_simp
   refine ⟨trivial, callsIn_wide.2 ((num11_any _ _).mono ?_)⟩
   rintro e w ⟨rfl, rfl⟩
   simp only
   refine ⟨hS, ?_⟩
   have hi := opsW_at 34 (by decide)
   conv at hi => rhs; arg 1; whnf
   refine whichever_take 34 (.int .i64 0) [] hi (by kernel_rfl) (fun _ _ _ h => h) hS (by kernel_rfl) (fun w hw => ?_) ?_
   · clear hi
     constructor <;> go_simp
   clear hi
   have hi := opsW_at 35 (by decide)
   conv at hi => rhs; arg 1; whnf
   refine whichever_take 35 (.bool true) [] hi (by kernel_rfl) (fun _ _ _ h => h) hS (by kernel_rfl) (fun w hw => ?_) ?_
   · clear hi
     constructor <;> go_simp
   clear hi
   have hi := opsW_at 36 (by decide)
   conv at hi => rhs; arg 1; whnf
   refine whichever_next 36 hi (by kernel_rfl) (by kernel_rfl) ?_
   clear hi
   go_simp
   try refine ⟨hS, ?_⟩
   have hi := opsW_at 37 (by decide)
   conv at hi => rhs; arg 1; whnf
   refine whichever_take 37 (.pointer (some ⟨x7, 5, none⟩)) [] hi (by kernel_rfl) (fun _ _ _ h => h) hS (by kernel_rfl) (fun w hw => ?_) ?_
   · clear hi
     constructor <;> go_simp
   clear hi
   have hi := opsW_at 38 (by decide)
   conv at hi => rhs; arg 1; whnf
   refine whichever_take 38 (.slice BA 4 bc) [] hi (by kernel_rfl) (fun _ _ _ h => h) hS (by kernel_rfl) (fun w hw => ?_) ?_
   · clear hi
     have c := H4_5.out w hw
     constructor <;> go_simp
   clear hi
   have hi := opsW_at 39 (by decide)
   conv at hi => rhs; arg 1; whnf
   refine whichever_take 39 (.string ⟨#[0, 0, 104, 105]⟩) [] hi (by kernel_rfl) (fun _ _ _ h => h) hS (by kernel_rfl) (fun w hw => ?_) ?_
   · clear hi
     have c := HCV.out w hw
     constructor <;> go_simp
   clear hi
   have hi := opsW_at 40 (by decide)
   conv at hi => rhs; arg 1; whnf
   refine whichever_take 40 (.bool true) [] hi (by kernel_rfl) (fun _ _ _ h => h) hS (by kernel_rfl) (fun w hw => ?_) ?_
   · clear hi
     constructor <;> go_simp
   clear hi
   have hi := opsW_at 41 (by decide)
   conv at hi => rhs; arg 1; whnf
   refine whichever_take 41 (.bool true) [] hi (by kernel_rfl) (fun _ _ _ h => h) hS (by kernel_rfl) (fun w hw => ?_) ?_
   · clear hi
     constructor <;> go_simp
   clear hi
   have hi := opsW_at 42 (by decide)
   conv at hi => rhs; arg 1; whnf
   refine whichever_next 42 hi (by kernel_rfl) (by kernel_rfl) ?_
   clear hi
   go_simp
   try refine ⟨hS, ?_⟩
   have hi := opsW_at 43 (by decide)
   conv at hi => rhs; arg 1; whnf
   refine whichever_take 43 (.pointer (some ⟨x7 + 1, 1, none⟩)) [] hi (by kernel_rfl) (fun _ _ _ h => h) hS (by kernel_rfl) (fun w hw => ?_) ?_
   · clear hi
     constructor <;> go_simp
   clear hi
   have hi := opsW_at 44 (by decide)
   conv at hi => rhs; arg 1; whnf
   refine whichever_take 44 (.int .i64 1) [] hi (by kernel_rfl) (fun _ _ _ h => h) hS (by kernel_rfl) (fun w hw => ?_) ?_
   · clear hi
     have c := H5_1.out w hw
     constructor <;> go_simp
   clear hi
   have hi := opsW_at 45 (by decide)
   conv at hi => rhs; arg 1; whnf
   refine whichever_take 45 (.bool true) [] hi (by kernel_rfl) (fun _ _ _ h => h) hS (by kernel_rfl) (fun w hw => ?_) ?_
   · clear hi
     constructor <;> go_simp
   clear hi
   have hi := opsW_at 46 (by decide)
   conv at hi => rhs; arg 1; whnf
   refine whichever_take 46 (.bool true) [] hi (by kernel_rfl) (fun _ _ _ h => h) hS (by kernel_rfl) (fun w hw => ?_) ?_
   · clear hi
     constructor <;> go_simp
   clear hi
   have hi := opsW_at 47 (by decide)
   conv at hi => rhs; arg 1; whnf
   refine whichever_next 47 hi (by kernel_rfl) (by kernel_rfl) ?_
   clear hi
   go_simp
   try refine ⟨hS, ?_⟩
   have hi := opsW_at 48 (by decide)
   conv at hi => rhs; arg 1; whnf
   refine whichever_take 48 (.pointer (some ⟨x7 + 1, 2, none⟩)) [] hi (by kernel_rfl) (fun _ _ _ h => h) hS (by kernel_rfl) (fun w hw => ?_) ?_
   · clear hi
     constructor <;> go_simp
   clear hi
   have hi := opsW_at 49 (by decide)
   conv at hi => rhs; arg 1; whnf
   refine whichever_take 49 (.int .i64 1) [] hi (by kernel_rfl) (fun _ _ _ h => h) hS (by kernel_rfl) (fun w hw => ?_) ?_
   · clear hi
     have c := H5_2.out w hw
     constructor <;> go_simp
   clear hi
   have hi := opsW_at 50 (by decide)
   conv at hi => rhs; arg 1; whnf
   refine whichever_take 50 (.bool true) [] hi (by kernel_rfl) (fun _ _ _ h => h) hS (by kernel_rfl) (fun w hw => ?_) ?_
   · clear hi
     constructor <;> go_simp
   clear hi
   have hi := opsW_at 51 (by decide)
   conv at hi => rhs; arg 1; whnf
   refine whichever_take 51 (.bool true) [] hi (by kernel_rfl) (fun _ _ _ h => h) hS (by kernel_rfl) (fun w hw => ?_) ?_
   · clear hi
     constructor <;> go_simp
   clear hi
   have hi := opsW_at 52 (by decide)
   conv at hi => rhs; arg 1; whnf
   refine whichever_next 52 hi (by kernel_rfl) (by kernel_rfl) ?_
   clear hi
   go_simp
   try refine ⟨hS, ?_⟩
   have hi := opsW_at 53 (by decide)
   conv at hi => rhs; arg 1; whnf
   refine whichever_take 53 (.pointer (some ⟨x7 + 1, 3, none⟩)) [] hi (by kernel_rfl) (fun _ _ _ h => h) hS (by kernel_rfl) (fun w hw => ?_) ?_
   · clear hi
     constructor <;> go_simp
   clear hi
   have hi := opsW_at 54 (by decide)
   conv at hi => rhs; arg 1; whnf
   refine whichever_take 54 (.int .i64 4) [] hi (by kernel_rfl) (fun _ _ _ h => h) hS (by kernel_rfl) (fun w hw => ?_) ?_
   · clear hi
     have c := H5_3.out w hw
     constructor <;> go_simp
   clear hi
   have hi := opsW_at 55 (by decide)
   conv at hi => rhs; arg 1; whnf
   refine whichever_take 55 (.bool true) [] hi (by kernel_rfl) (fun _ _ _ h => h) hS (by kernel_rfl) (fun w hw => ?_) ?_
   · clear hi
     constructor <;> go_simp
   clear hi
   have hi := opsW_at 56 (by decide)
   conv at hi => rhs; arg 1; whnf
   refine whichever_take 56 (.bool true) [] hi (by kernel_rfl) (fun _ _ _ h => h) hS (by kernel_rfl) (fun w hw => ?_) ?_
   · clear hi
     constructor <;> go_simp
   clear hi
   have hi := opsW_at 57 (by decide)
   conv at hi => rhs; arg 1; whnf
   refine whichever_next 57 hi (by kernel_rfl) (by kernel_rfl) ?_
   clear hi
   go_simp
   try refine ⟨hS, ?_⟩
   have hi := opsW_at 58 (by decide)
   conv at hi => rhs; arg 1; whnf
   refine whichever_take 58 (.pointer (some ⟨x10, 4, none⟩)) [] hi (by kernel_rfl) (fun _ _ _ h => h) hS (by kernel_rfl) (fun w hw => ?_) ?_
   · clear hi
     constructor <;> go_simp
   clear hi
   have hi := opsW_at 59 (by decide)
   conv at hi => rhs; arg 1; whnf
   refine whichever_take 59 (.slice NA 1 nc) [] hi (by kernel_rfl) (fun _ _ _ h => h) hS (by kernel_rfl) (fun w hw => ?_) ?_
   · clear hi
     have c := H6_4.out w hw
     constructor <;> go_simp
   clear hi
   as_aux_lemma =>
    have hi := opsW_at 60 (by decide)
    conv at hi => rhs; arg 1; whnf
    refine whichever_next 60 hi (by kernel_rfl) (by kernel_rfl) ?_
    clear hi
    go_simp
    have hS2 : Below w22.heap.size w22 (w.alloc (.cells #[.string ⟨#[102]⟩] 9)) := hS.alloc (by have := hS.size; omega) _
    have hr2 := rowAt_new w [.string ⟨#[102]⟩] 9
    refine ⟨hS2, ?_⟩
    have hi := opsW_at 61 (by decide)
    conv at hi => rhs; arg 1; whnf
    refine whichever_next 61 hi (by kernel_rfl) (by kernel_rfl) ?_
    clear hi
    go_simp
    refine ⟨trivial, callsIn_wide.2 ((texts_anyD [⟨#[102]⟩] [⟨#[102]⟩] NA _ 1 1 _ _ _ rfl rfl (by unfold maxLen; omega) (HROW.out _ hS2) hr2).mono ?_)⟩
    rintro e w24 ⟨rfl, hb24⟩
    rw [show eqL [(⟨#[102]⟩ : ByteArray)] [⟨#[102]⟩] = true by kernel_rfl]
    simp only
    have hS : Below w22.heap.size w22 w24 := hS2.trans (hb24.mono hS2.size)
    refine ⟨hS, ?_⟩
    have hi := opsW_at 62 (by decide)
    conv at hi => rhs; arg 1; whnf
    refine whichever_take 62 (.bool true) [] hi (by kernel_rfl) (fun _ _ _ h => h) hS (by kernel_rfl) (fun w hw => ?_) ?_
    · clear hi
      constructor <;> go_simp
    clear hi
    have hi := opsW_at 63 (by decide)
    conv at hi => rhs; arg 1; whnf
    refine whichever_next 63 hi (by kernel_rfl) (by kernel_rfl) ?_
    clear hi
    go_simp
    try refine ⟨hS, ?_⟩
    have hi := opsW_at 64 (by decide)
    conv at hi => rhs; arg 1; whnf
    refine whichever_take 64 (.pointer (some ⟨x10 + 1, 1, none⟩)) [] hi (by kernel_rfl) (fun _ _ _ h => h) hS (by kernel_rfl) (fun w hw => ?_) ?_
    · clear hi
      constructor <;> go_simp
    clear hi
    have hi := opsW_at 65 (by decide)
    conv at hi => rhs; arg 1; whnf
    refine whichever_take 65 (.int .i64 2) [] hi (by kernel_rfl) (fun _ _ _ h => h) hS (by kernel_rfl) (fun w hw => ?_) ?_
    · clear hi
      have c := H7_1.out w hw
      constructor <;> go_simp
    clear hi
    have hi := opsW_at 66 (by decide)
    conv at hi => rhs; arg 1; whnf
    refine whichever_take 66 (.bool true) [] hi (by kernel_rfl) (fun _ _ _ h => h) hS (by kernel_rfl) (fun w hw => ?_) ?_
    · clear hi
      constructor <;> go_simp
    clear hi
    have hi := opsW_at 67 (by decide)
    conv at hi => rhs; arg 1; whnf
    refine whichever_take 67 (.bool true) [] hi (by kernel_rfl) (fun _ _ _ h => h) hS (by kernel_rfl) (fun w hw => ?_) ?_
    · clear hi
      constructor <;> go_simp
    clear hi
    have hi := opsW_at 68 (by decide)
    conv at hi => rhs; arg 1; whnf
    refine whichever_next 68 hi (by kernel_rfl) (by kernel_rfl) ?_
    clear hi
    go_simp
    try refine ⟨hS, ?_⟩
    have hi := opsW_at 69 (by decide)
    conv at hi => rhs; arg 1; whnf
    refine whichever_take 69 (.pointer (some ⟨x10 + 1, 2, none⟩)) [] hi (by kernel_rfl) (fun _ _ _ h => h) hS (by kernel_rfl) (fun w hw => ?_) ?_
    · clear hi
      constructor <;> go_simp
    clear hi
    have hi := opsW_at 70 (by decide)
    conv at hi => rhs; arg 1; whnf
    refine whichever_take 70 (.int .i64 1) [] hi (by kernel_rfl) (fun _ _ _ h => h) hS (by kernel_rfl) (fun w hw => ?_) ?_
    · clear hi
      have c := H7_2.out w hw
      constructor <;> go_simp
    clear hi
    have hi := opsW_at 71 (by decide)
    conv at hi => rhs; arg 1; whnf
    refine whichever_take 71 (.bool true) [] hi (by kernel_rfl) (fun _ _ _ h => h) hS (by kernel_rfl) (fun w hw => ?_) ?_
    · clear hi
      constructor <;> go_simp
    clear hi
    have hi := opsW_at 72 (by decide)
    conv at hi => rhs; arg 1; whnf
    refine whichever_take 72 (.bool true) [] hi (by kernel_rfl) (fun _ _ _ h => h) hS (by kernel_rfl) (fun w hw => ?_) ?_
    · clear hi
      constructor <;> go_simp
    clear hi
    have hi := opsW_at 73 (by decide)
    conv at hi => rhs; arg 1; whnf
    refine whichever_next 73 hi (by kernel_rfl) (by kernel_rfl) ?_
    clear hi
    go_simp
    try refine ⟨hS, ?_⟩
    have hi := opsW_at 74 (by decide)
    conv at hi => rhs; arg 1; whnf
    refine whichever_take 74 (.pointer (some ⟨x10 + 1, 3, none⟩)) [] hi (by kernel_rfl) (fun _ _ _ h => h) hS (by kernel_rfl) (fun w hw => ?_) ?_
    · clear hi
      constructor <;> go_simp
    clear hi
    have hi := opsW_at 75 (by decide)
    conv at hi => rhs; arg 1; whnf
    refine whichever_take 75 (.int .i64 1) [] hi (by kernel_rfl) (fun _ _ _ h => h) hS (by kernel_rfl) (fun w hw => ?_) ?_
    · clear hi
      have c := H7_3.out w hw
      constructor <;> go_simp
    clear hi
    have hi := opsW_at 76 (by decide)
    conv at hi => rhs; arg 1; whnf
    refine whichever_take 76 (.bool true) [] hi (by kernel_rfl) (fun _ _ _ h => h) hS (by kernel_rfl) (fun w hw => ?_) ?_
    · clear hi
      constructor <;> go_simp
    clear hi
    have hi := opsW_at 77 (by decide)
    conv at hi => rhs; arg 1; whnf
    refine whichever_take 77 (.bool true) [] hi (by kernel_rfl) (fun _ _ _ h => h) hS (by kernel_rfl) (fun w hw => ?_) ?_
    · clear hi
      constructor <;> go_simp
    clear hi
    have hi := opsW_at 78 (by decide)
    conv at hi => rhs; arg 1; whnf
    refine whichever_next 78 hi (by kernel_rfl) (by kernel_rfl) ?_
    clear hi
    go_simp
    try refine ⟨hS, ?_⟩
    have hi := opsW_at 79 (by decide)
    conv at hi => rhs; arg 1; whnf
    refine whichever_take 79 (.pointer (some ⟨x13 + 1, 0, none⟩)) [] hi (by kernel_rfl) (fun _ _ _ h => h) hS (by kernel_rfl) (fun w hw => ?_) ?_
    · clear hi
      constructor <;> go_simp
    clear hi
    have hi := opsW_at 80 (by decide)
    conv at hi => rhs; arg 1; whnf
    refine whichever_take 80 (.int .i64 2) [] hi (by kernel_rfl) (fun _ _ _ h => h) hS (by kernel_rfl) (fun w hw => ?_) ?_
    · clear hi
      have c := H9_0.out w hw
      constructor <;> go_simp
    clear hi
    have hi := opsW_at 81 (by decide)
    conv at hi => rhs; arg 1; whnf
    refine whichever_next 81 hi (by kernel_rfl) (by kernel_rfl) ?_
    clear hi
    go_simp
    refine ⟨trivial, callsIn_wide.2 ((num11_any _ _).mono ?_)⟩
    rintro e w ⟨rfl, rfl⟩
    simp only
    refine ⟨hS, ?_⟩
    have hi := opsW_at 82 (by decide)
    conv at hi => rhs; arg 1; whnf
    refine whichever_take 82 (.bool true) [] hi (by kernel_rfl) (fun _ _ _ h => h) hS (by kernel_rfl) (fun w hw => ?_) ?_
    · clear hi
      constructor <;> go_simp
    clear hi
    have hi := opsW_at 83 (by decide)
    conv at hi => rhs; arg 1; whnf
    refine whichever_take 83 (.bool true) [] hi (by kernel_rfl) (fun _ _ _ h => h) hS (by kernel_rfl) (fun w hw => ?_) ?_
    · clear hi
      constructor <;> go_simp
    clear hi
    have hi := opsW_at 84 (by decide)
    conv at hi => rhs; arg 1; whnf
    refine whichever_next 84 hi (by kernel_rfl) (by kernel_rfl) ?_
    clear hi
    go_simp
    try refine ⟨hS, ?_⟩
    have hi := opsW_at 85 (by decide)
    conv at hi => rhs; arg 1; whnf
    refine whichever_take 85 (.pointer (some ⟨x16, 0, none⟩)) [] hi (by kernel_rfl) (fun _ _ _ h => h) hS (by kernel_rfl) (fun w hw => ?_) ?_
    · clear hi
      constructor <;> go_simp
    clear hi
    have hi := opsW_at 86 (by decide)
    conv at hi => rhs; arg 1; whnf
    refine whichever_take 86 (.int .i64 202) [] hi (by kernel_rfl) (fun _ _ _ h => h) hS (by kernel_rfl) (fun w hw => ?_) ?_
    · clear hi
      have c := H10_0.out w hw
      constructor <;> go_simp
    clear hi
    have hi := opsW_at 87 (by decide)
    conv at hi => rhs; arg 1; whnf
    refine whichever_next 87 hi (by kernel_rfl) (by kernel_rfl) ?_
    clear hi
    go_simp
    refine ⟨trivial, callsIn_wide.2 ((num11_any _ _).mono ?_)⟩
    rintro e w ⟨rfl, rfl⟩
    simp only
    refine ⟨hS, ?_⟩
    have hi := opsW_at 88 (by decide)
    conv at hi => rhs; arg 1; whnf
    refine whichever_take 88 (.bool true) [] hi (by kernel_rfl) (fun _ _ _ h => h) hS (by kernel_rfl) (fun w hw => ?_) ?_
    · clear hi
      constructor <;> go_simp
    clear hi
    have hi := opsW_at 89 (by decide)
    conv at hi => rhs; arg 1; whnf
    refine whichever_take 89 (.bool true) [] hi (by kernel_rfl) (fun _ _ _ h => h) hS (by kernel_rfl) (fun w hw => ?_) ?_
    · clear hi
      constructor <;> go_simp
    clear hi
    as_aux_lemma =>
     have hi := opsW_at 90 (by decide)
     conv at hi => rhs; arg 1; whnf
     refine whichever_next 90 hi (by kernel_rfl) (by kernel_rfl) ?_
     clear hi
     go_simp
     try refine ⟨hS, ?_⟩
     have hi := opsW_at 91 (by decide)
     conv at hi => rhs; arg 1; whnf
     refine whichever_take 91 (.pointer (some ⟨x16 + 1, 0, none⟩)) [] hi (by kernel_rfl) (fun _ _ _ h => h) hS (by kernel_rfl) (fun w hw => ?_) ?_
     · clear hi
       constructor <;> go_simp
     clear hi
     have hi := opsW_at 92 (by decide)
     conv at hi => rhs; arg 1; whnf
     refine whichever_take 92 (.int .i64 190) [] hi (by kernel_rfl) (fun _ _ _ h => h) hS (by kernel_rfl) (fun w hw => ?_) ?_
     · clear hi
       have c := H11_0.out w hw
       constructor <;> go_simp
     clear hi
     have hi := opsW_at 93 (by decide)
     conv at hi => rhs; arg 1; whnf
     refine whichever_next 93 hi (by kernel_rfl) (by kernel_rfl) ?_
     clear hi
     go_simp
     refine ⟨trivial, callsIn_wide.2 ((num11_any _ _).mono ?_)⟩
     rintro e w ⟨rfl, rfl⟩
     simp only
     refine ⟨hS, ?_⟩
     have hi := opsW_at 94 (by decide)
     conv at hi => rhs; arg 1; whnf
     refine whichever_take 94 (.bool true) [] hi (by kernel_rfl) (fun _ _ _ h => h) hS (by kernel_rfl) (fun w hw => ?_) ?_
     · clear hi
       constructor <;> go_simp
     clear hi
     have hi := opsW_at 95 (by decide)
     conv at hi => rhs; arg 1; whnf
     refine whichever_take 95 (.bool true) [] hi (by kernel_rfl) (fun _ _ _ h => h) hS (by kernel_rfl) (fun w hw => ?_) ?_
     · clear hi
       constructor <;> go_simp
     clear hi
     have hi := opsW_at 96 (by decide)
     conv at hi => rhs; arg 1; whnf
     refine whichever_next 96 hi (by kernel_rfl) (by kernel_rfl) ?_
     clear hi
     go_simp
     try refine ⟨hS, ?_⟩
     have hi := opsW_at 97 (by decide)
     conv at hi => rhs; arg 1; whnf
     refine whichever_take 97 (.pointer (some ⟨x19, 0, none⟩)) [] hi (by kernel_rfl) (fun _ _ _ h => h) hS (by kernel_rfl) (fun w hw => ?_) ?_
     · clear hi
       constructor <;> go_simp
     clear hi
     have hi := opsW_at 98 (by decide)
     conv at hi => rhs; arg 1; whnf
     refine whichever_take 98 (.int .i64 2) [] hi (by kernel_rfl) (fun _ _ _ h => h) hS (by kernel_rfl) (fun w hw => ?_) ?_
     · clear hi
       have c := H12_0.out w hw
       constructor <;> go_simp
     clear hi
     have hi := opsW_at 99 (by decide)
     conv at hi => rhs; arg 1; whnf
     refine whichever_next 99 hi (by kernel_rfl) (by kernel_rfl) ?_
     clear hi
     go_simp
     refine ⟨trivial, callsIn_wide.2 ((num11_any _ _).mono ?_)⟩
     rintro e w ⟨rfl, rfl⟩
     simp only
     refine ⟨hS, ?_⟩
     have hi := opsW_at 100 (by decide)
     conv at hi => rhs; arg 1; whnf
     refine whichever_take 100 (.bool true) [] hi (by kernel_rfl) (fun _ _ _ h => h) hS (by kernel_rfl) (fun w hw => ?_) ?_
     · clear hi
       constructor <;> go_simp
     clear hi
     have hi := opsW_at 101 (by decide)
     conv at hi => rhs; arg 1; whnf
     refine whichever_take 101 (.bool true) [] hi (by kernel_rfl) (fun _ _ _ h => h) hS (by kernel_rfl) (fun w hw => ?_) ?_
     · clear hi
       constructor <;> go_simp
     clear hi
     have hi := opsW_at 102 (by decide)
     conv at hi => rhs; arg 1; whnf
     refine whichever_next 102 hi (by kernel_rfl) (by kernel_rfl) ?_
     clear hi
     go_simp
     try refine ⟨hS, ?_⟩
     have hi := opsW_at 103 (by decide)
     conv at hi => rhs; arg 1; whnf
     refine whichever_take 103 (.pointer (some ⟨x21, 2, none⟩)) [] hi (by kernel_rfl) (fun _ _ _ h => h) hS (by kernel_rfl) (fun w hw => ?_) ?_
     · clear hi
       constructor <;> go_simp
     clear hi
     have hi := opsW_at 104 (by decide)
     conv at hi => rhs; arg 1; whnf
     refine whichever_take 104 (.int .i64 2) [] hi (by kernel_rfl) (fun _ _ _ h => h) hS (by kernel_rfl) (fun w hw => ?_) ?_
     · clear hi
       have c := H14_2.out w hw
       constructor <;> go_simp
     clear hi
     have hi := opsW_at 105 (by decide)
     conv at hi => rhs; arg 1; whnf
     refine whichever_take 105 (.bool true) [] hi (by kernel_rfl) (fun _ _ _ h => h) hS (by kernel_rfl) (fun w hw => ?_) ?_
     · clear hi
       constructor <;> go_simp
     clear hi
     have hi := opsW_at 106 (by decide)
     conv at hi => rhs; arg 1; whnf
     refine whichever_take 106 (.bool true) [] hi (by kernel_rfl) (fun _ _ _ h => h) hS (by kernel_rfl) (fun w hw => ?_) ?_
     · clear hi
       constructor <;> go_simp
     clear hi
     have hi := opsW_at 107 (by decide)
     conv at hi => rhs; arg 1; whnf
     refine whichever_next 107 hi (by kernel_rfl) (by kernel_rfl) ?_
     clear hi
     go_simp
     try refine ⟨hS, ?_⟩
     have hi := opsW_at 108 (by decide)
     conv at hi => rhs; arg 1; whnf
     refine whichever_take 108 (.pointer (some ⟨x21, 3, none⟩)) [] hi (by kernel_rfl) (fun _ _ _ h => h) hS (by kernel_rfl) (fun w hw => ?_) ?_
     · clear hi
       constructor <;> go_simp
     clear hi
     have hi := opsW_at 109 (by decide)
     conv at hi => rhs; arg 1; whnf
     refine whichever_take 109 (.int .i64 1) [] hi (by kernel_rfl) (fun _ _ _ h => h) hS (by kernel_rfl) (fun w hw => ?_) ?_
     · clear hi
       have c := H14_3.out w hw
       constructor <;> go_simp
     clear hi
     have hi := opsW_at 110 (by decide)
     conv at hi => rhs; arg 1; whnf
     refine whichever_take 110 (.bool true) [] hi (by kernel_rfl) (fun _ _ _ h => h) hS (by kernel_rfl) (fun w hw => ?_) ?_
     · clear hi
       constructor <;> go_simp
     clear hi
     have hi := opsW_at 111 (by decide)
     conv at hi => rhs; arg 1; whnf
     refine whichever_take 111 (.bool true) [] hi (by kernel_rfl) (fun _ _ _ h => h) hS (by kernel_rfl) (fun w hw => ?_) ?_
     · clear hi
       constructor <;> go_simp
     clear hi
     have hi := opsW_at 112 (by decide)
     conv at hi => rhs; arg 1; whnf
     refine whichever_take 112 (.bool true) [] hi (by kernel_rfl) (fun _ _ _ h => h) hS (by kernel_rfl) (fun w hw => ?_) ?_
     · clear hi
       constructor <;> go_simp
     clear hi
     refine whichever_end (by kernel_rfl) ?_
     refine HK.out _ _ ?_
     go_wp2_with fail
     go_ret
     exact ⟨rfl, HBL.out.trans (hS.mono HBL.out.size)⟩
end Go.Proofs.YtibpagmpdgflmaaGreatDoor
