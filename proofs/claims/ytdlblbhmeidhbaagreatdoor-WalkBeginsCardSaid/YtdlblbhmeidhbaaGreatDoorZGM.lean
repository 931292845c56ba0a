/- The contract of the reader's find. Conditions: none. -/
import Derived.Test.YtdlblbhmeidhbaaGreatDoorZGL
import Derived.Test.YtdlblbhmeidhbaaGreatDoorZG4
namespace Go.Proofs.YtdlblbhmeidhbaaGreatDoor
open Go.RowKit
attribute [local go_sem] Oper.semAt_some

theorem panic_mark {P : Program} {fn : Func} {R : Ending → World → Prop} {tmps : Array Value} {W : World} {D : Nat} {ch : List PanicEntry}
    (hK : W.heap[D]? = some (.deferred (some []))) (h : R (.panicked ch) (W.putObj D (.deferred none))) : bodyPostM Fence.wide 9 P fn R (.panic ch) { tmps := tmps, defers := [{ target := .collected D, args := #[] }] } W :=
  ⟨by simp, .inl ⟨_, _, rfl, run_takeDeferred hK, h⟩⟩
theorem chainQ_ne {fed : List Nat} {s : List UInt8} : ∀ {fuel line v : Nat} {l l' : List Nat}, chainQ fed s fuel line l = .val (some v) l' → v ≠ 0
  | 0, line, v, l, l', h => by
    rw [chainQ] at h
    split at h <;> cases h
  | fuel + 1, line, v, l, l', h => by
    rw [chainQ] at h
    split at h
    · cases h
    · obtain ⟨o, l1, h1, h2⟩ := bind_val h
      cases o with
      | some v' =>
        cases h2
        obtain ⟨b, l2, h3, h4⟩ := bind_val h1
        split at h4
        · obtain ⟨v'', l3, h5, h6⟩ := bind_val h4
          cases h6
          obtain ⟨x, l5, h7, h8⟩ := bind_val h5
          exact (someP_ne h8).1
        · cases h4
      | none =>
        obtain ⟨next, l2, h3, h4⟩ := bind_val h2
        exact chainQ_ne h4
theorem headQ_ne {fed : List Nat} {s : List UInt8} {head v : Nat} {l l' : List Nat} (h : headQ fed s head l = .val (some v) l') : v ≠ 0 := by
  obtain ⟨line, l1, h1, h2⟩ := bind_val h
  exact chainQ_ne h2
variable {R : Nat} {FA : Option Addr} {nf cf : Nat} {fed ats : List Nat}
set_option maxRecDepth 100000 in
set_option maxHeartbeats 8000000 in
theorem find_any (top : Nat) (s : ByteArray) (W : World) (htop : top < 1024) (hr : rightB (bytesOf s) = true) (hl : ats.length ≤ 50000) (hnf : nf ≤ 20000) (hx64 : ∀ x ∈ fed, x < 18446744073709551616) (h : RdAt R FA nf cf fed ats W) :
    Calls Tryz.prog 31 #[.pointer (some ⟨R, 0, none⟩), .int .i64 top, .string s] W (ReadsTo R FA nf cf fed W (fun a : Nat => .int .i64 a) (findP fed top (bytesOf s) ats)) := by
  obtain ⟨hs1, hs40⟩ := rightB_size hr
  rw [size_bytesOf] at hs1 hs40
  have hbk := fun W => bucket_any s W (by unfold maxLen; omega)
  rw [hr, if_pos rfl] at hbk
  have HFE := Lib.hid (findP_eq fed top (bytesOf s) ats)
  have HR := Lib.hid h
  have HX := Lib.hid hx64
  have hbb : bucketN (bytesOf s) < 100000 := by unfold bucketN; omega
  have HRT := Lib.hid hr
  generalize hbkn : bucketN (bytesOf s) = bk at *
  have hat := fun W => at_any top bk W (by omega)
  have hhd : top * 8 + bk < 9223372036854775808 := by omega
  generalize top * 8 + bk = head at *
  have HBK := Lib.hid hbk
  have HAT := Lib.hid hat
  clear hbk hat h hx64 hr
  refine calls_of_wpB (f := 31) Tryz.func31 rfl ?_
  simp only [Tryz.ntmps31, List.size_toArray, List.length_cons, List.length_nil, Nat.reduceAdd, Nat.reduceSub, Array.replicate_succ, Array.replicate_zero, List.push_toArray, List.append_toArray, List.nil_append, List.cons_append]
  refine wpB_seq_k fun K hK => ?_
  go_wp2_with fail
  refine wpB_scope ?_
  refine wpB_seq_k fun K hK => ?_
  go_wp2_with (go_at_call 49; refine (HBK.out _).mono ?_; rintro e w1 ⟨rfl, hb1⟩)
  refine wpB_seq_k fun K hK => ?_
  go_wp2_with fail
  refine wpB_seq_k fun K hK => ?_
  go_wp2_with go_step3
  have hb0 : Below W.heap.size W ((W.alloc (.cells #[.pointer (some ⟨R, 0, none⟩)] 47)).alloc (.cells #[.string s] 9)) := ((Below.refl _ W).alloc (Nat.le_refl _) _).alloc (by simp) _
  obtain ⟨W0, hW0⟩ : ∃ W0, (W.alloc (.cells #[.pointer (some ⟨R, 0, none⟩)] 47)).alloc (.cells #[.string s] 9) = W0 := ⟨_, rfl⟩
  have hs0 : W0.heap.size = W.heap.size + 2 := by rw [← hW0]; simp
  have d3 : W0.cell? ⟨W.heap.size, 0, none⟩ = some (.pointer (some ⟨R, 0, none⟩)) := by
    rw [← hW0]
    exact (((Below.refl _ (W.alloc (.cells #[.pointer (some ⟨R, 0, none⟩)] 47))).alloc (Nat.le_refl _) _).cell (p := ⟨W.heap.size, 0, none⟩) (by simp)).trans (cell_new W _ _ 0 _ rfl)
  have d5 : W0.cell? ⟨W.heap.size + 1, 0, none⟩ = some (.string s) := by
    rw [← hW0]
    have := cell_new (W.alloc (.cells #[.pointer (some ⟨R, 0, none⟩)] 47)) #[.string s] 9 0 _ rfl
    rwa [World.size_alloc] at this
  have hb1 : Below W0.heap.size W0 w1 := hW0 ▸ hb1
  rw [hW0] at hb0
  obtain ⟨V, hV⟩ : ∃ V, w1.alloc (.cells #[.int .i64 0] 3) = V := ⟨_, rfl⟩
  have hbV : Below W0.heap.size W0 V := by rw [← hV]; exact hb1.alloc hb1.size _
  have hbWV : Below W.heap.size W V := hb0.trans (hbV.mono (by omega))
  obtain ⟨B9, hB9⟩ : ∃ B9, w1.heap.size = B9 := ⟨_, rfl⟩
  have hs1 : W.heap.size + 2 ≤ B9 := by have := hb1.size; omega
  have c3 : V.cell? ⟨W.heap.size, 0, none⟩ = some (.pointer (some ⟨R, 0, none⟩)) := (hbV.cell (p := ⟨W.heap.size, 0, none⟩) (by show W.heap.size < _; omega)).trans d3
  have c5 : V.cell? ⟨W.heap.size + 1, 0, none⟩ = some (.string s) := (hbV.cell (p := ⟨W.heap.size + 1, 0, none⟩) (by show W.heap.size + 1 < _; omega)).trans d5
  have c9 : V.cell? ⟨B9, 0, none⟩ = some (.int .i64 0) := by rw [← hV, ← hB9]; exact cell_new w1 _ _ 0 _ rfl
  have f9 : V.frozen? ⟨B9, 0, none⟩ = false := by rw [← hV, ← hB9]; exact (World.frozen?_of_block (w := w1.alloc (.cells #[.int .i64 0] 3)) rfl).trans (by simp)
  have hF3 := HR.out.free_new hbWV (Nat.le_refl _)
  have hF5 := HR.out.free_new hbWV (b := W.heap.size + 1) (by omega)
  have hF9 := HR.out.free_new hbWV (b := B9) (by omega)
  have hRV := HR.out.below hbWV
  have hV9 : B9 < V.heap.size := by rw [← hV, ← hB9]; simp
  have hRlt := HR.out.lt
  rw [hV, hB9]
  have HBW := Lib.hid hbWV
  clear hW0 hV d3 d5 hb0 hb1 hbV hB9 hbWV
  refine wpB_seq ?_
  refine wpB_seq_k fun K hK => ?_
  refine box_tail 4 (by kernel_rfl) (by kernel_rfl) ?_
  simp only [List.take_succ_cons, List.take_zero, List.drop_succ_cons, List.drop_zero]
  iterate 3
    refine box_step (fun K hK => ?_)
    go_simp
    refine hK _ ?_
    clear hK K
  refine box_step (fun K hK => ?_)
  go_simp
  refine ⟨_, HAT.out _, hK _ ?_⟩
  clear hK K
  refine ⟨wpStill_nil ?_⟩
  have HCH := Lib.hid (fun W => chain_any R head W)
  go_wp2_with (go_at_call 50; refine (HCH.out _).mono ?_; rintro e w2 ⟨rfl, rfl⟩)
  have hb2 : Below V.heap.size V ((V.alloc (.cells #[.pointer (some ⟨R, 0, none⟩)] 47)).alloc (.cells #[.int .i64 (head : Nat)] 3)).drew := (((Below.refl _ V).alloc (Nat.le_refl _) _).alloc (by simp) _).drew
  obtain ⟨V2, hV2⟩ : ∃ V2, ((V.alloc (.cells #[.pointer (some ⟨R, 0, none⟩)] 47)).alloc (.cells #[.int .i64 (head : Nat)] 3)).drew = V2 := ⟨_, rfl⟩
  have e1 : V2.cell? ⟨V.heap.size, 0, none⟩ = some (.pointer (some ⟨R, 0, none⟩)) := by
    rw [← hV2]
    exact (((Below.refl _ (V.alloc (.cells #[.pointer (some ⟨R, 0, none⟩)] 47))).alloc (Nat.le_refl _) _).cell (p := ⟨V.heap.size, 0, none⟩) (by simp)).trans (cell_new V _ _ 0 _ rfl)
  have e2 : V2.cell? ⟨V.heap.size + 1, 0, none⟩ = some (.int .i64 (head : Nat)) := by
    rw [← hV2]
    have := cell_new (V.alloc (.cells #[.pointer (some ⟨R, 0, none⟩)] 47)) #[.int .i64 (head : Nat)] 3 0 _ rfl
    rwa [World.size_alloc] at this
  have hs2 : V2.heap.size = V.heap.size + 2 := by rw [← hV2]; simp [World.drew]
  rw [hV2] at hb2
  rw [hV2]
  have hRV2 := hRV.below hb2
  have hE1 := hRV.free_new hb2 (Nat.le_refl _)
  have hE2 := hRV.free_new hb2 (b := V.heap.size + 1) (by omega)
  have k3 := freeAt_below hb2 hRV.lt hF3
  have k5 := freeAt_below hb2 hRV.lt hF5
  have k9 := freeAt_below hb2 hRV.lt hF9
  have c3 : V2.cell? ⟨W.heap.size, 0, none⟩ = some (.pointer (some ⟨R, 0, none⟩)) := (hb2.cell (p := ⟨W.heap.size, 0, none⟩) (by show W.heap.size < _; omega)).trans c3
  have c5 : V2.cell? ⟨W.heap.size + 1, 0, none⟩ = some (.string s) := (hb2.cell (p := ⟨W.heap.size + 1, 0, none⟩) (by show W.heap.size + 1 < _; omega)).trans c5
  have c9 : V2.cell? ⟨B9, 0, none⟩ = some (.int .i64 0) := (hb2.cell (p := ⟨B9, 0, none⟩) hV9).trans c9
  have f9 : V2.frozen? ⟨B9, 0, none⟩ = false := (hb2.frozen (p := ⟨B9, 0, none⟩) hV9).trans f9
  have hV29 : B9 < V2.heap.size := by omega
  have HBV : Hid (RB R W.heap.size W V2) := ((RB.of_below HBW.out hRlt)).trans (RB.of_below (hb2.mono (by omega)) (by omega))
  clear hV2 hF3 hF5 hF9 hRV hb2 HBW HCH HBK HAT
  refine wpB_block ?_
  refine wpB_chain (R := R) (FA := FA) (nf := nf) (cf := cf) (fed := fed) (ats := ats) (Rb := V.heap.size) (Hb := V.heap.size + 1) (head := head) (B9 := B9) (c9 := .int .i64 0) Tryz.func31 (bytesOf s) rfl hhd (by omega) hnf HX.out hRV2 ⟨e1, e2⟩ hE1 hE2 k9 c9 (by omega) ?_ ?_ ?_ ?_ ?_ ?_
  rotate_left
  · intro l line W K hK
    gi_wp2
    exact hK
  · intro lp line l1 Wx hl1 hl2 hl3 hrd hrb
    have x3 := (hrb.cell (b := W.heap.size) (by omega) k3).trans c3
    have x5 := (hrb.cell (b := W.heap.size + 1) (by omega) k5).trans c5
    have x9 := (hrb.cell hV29 k9).trans c9
    have y9 := (hrb.frozen hV29 k9).trans f9
    have q3 := (hrb.keep W.heap.size (by omega) k3).2
    have q9 := (hrb.keep B9 hV29 k9).2
    have hsx : V2.heap.size ≤ Wx.heap.size := hrb.size
    have hft := fits_any line s Wx (by omega) HRT.out (by omega) (by omega) HX.out hrd
    have HRX := Lib.hid hrd
    have HRQ : Hid (roundQ fed (bytesOf s) line l1 = (fitsP fed line (bytesOf s) l1).bind fun is ats => if is then ((loadP fed (line * 8 + 1) ats).bind someP).bind fun v ats => .val (some v) ats else .val none ats) := rfl
    clear hrb hrd
    generalize hr1 : fitsP fed line (bytesOf s) l1 = r1 at HRQ hft
    cases r1 with
    | stop o l2 =>
      have HRE : Hid (roundQ fed (bytesOf s) line l1 = .stop o l2) := HRQ.out
      have HFT := Lib.hid (reads_stop hft rfl)
      clear hft HRQ hr1
      gi_wp2_with (refine And.intro trivial ?_; gi_at_call 51; refine (CallsIn.inRound lp (callsIn_wide.2 HFT.out)).mono ?_; rintro e w5 ⟨rfl, h5, hb5⟩)
      rw [HRE.out]
      exact ⟨rfl, rfl, h5, hb5⟩
    | val bb l2 =>
      have hlen2 := fitsP_len hr1
      rw [HR.out.fedl] at hlen2
      have HFT := Lib.hid (reads_val hft rfl)
      clear hft hr1
      cases bb with
      | false =>
        have HRE : Hid (roundQ fed (bytesOf s) line l1 = .val none l2) := HRQ.out
        clear HRQ
        gi_wp2_with (refine And.intro trivial ?_; gi_at_call 51; refine (CallsIn.inRound lp (callsIn_wide.2 HFT.out)).mono ?_; rintro e w5 ⟨rfl, h5, hb5⟩)
        rw [HRE.out]
        exact ⟨rfl, h5, hb5⟩
      | true =>
        have HR1 : Hid (roundQ fed (bytesOf s) line l1 = ((loadP fed (line * 8 + 1) l2).bind someP).bind fun v ats => .val (some v) ats) := HRQ.out
        have hat1 := fun W => at_any line 1 W (by omega)
        have hpb : line * 8 + 1 < 9223372036854775808 := by omega
        generalize line * 8 + 1 = pp at *
        have HAT1 := Lib.hid hat1
        clear HRQ hat1
        generalize hr2 : loadP fed pp l2 = r2 at HR1
        cases r2 with
        | stop o l3 =>
          have HRE : Hid (roundQ fed (bytesOf s) line l1 = .stop o l3) := HR1.out
          clear HR1
          gi_wp2_with (refine And.intro trivial ?_; gi_at_call 51; refine (CallsIn.inRound lp (callsIn_wide.2 HFT.out)).mono ?_; rintro e w5 ⟨rfl, h5, hb5⟩)
          have z3 := (hb5.cell (b := W.heap.size) (by omega) q3).trans x3
          have z9 := (hb5.cell (b := B9) (by omega) q9).trans x9
          have zf := (hb5.frozen (b := B9) (by omega) q9).trans y9
          have zq := (hb5.keep B9 (by omega) q9).2
          have HC := Lib.hid (reads_stop (loadTo pp w5.drew hpb (by omega) (by omega) HX.out h5.drew') hr2)
          have HB5 : Hid (RB R Wx.heap.size Wx w5.drew) := hb5.trans (RB.drew' R _ w5)
          have hs5 := hb5.size
          clear h5 hb5 hr2
          rename_i KK hKK
          have HKK := Lib.hid hKK
          clear hKK
          have hmx : Tryz.prog.follows .mixedOrders = true := by kernel_rfl
          refine whichever_region (fun w2 => w2.cell? ⟨W.heap.size, 0, none⟩ = some (.pointer (some ⟨R, 0, none⟩))) [5, 6, 7] hmx ?_
          have hS0 : w5.drew.cell? ⟨W.heap.size, 0, none⟩ = some (.pointer (some ⟨R, 0, none⟩)) := z3
          refine whichever_take 0 (.pointer (some ⟨R, 0, none⟩)) [1, 2, 5, 6, 7] rfl (by kernel_rfl) (fun _ _ _ h => h) hS0 (by rfl) (fun w hw => ?_) ?_
          · constructor <;> go_simp
          refine whichever_take 1 (.pointer (some ⟨R, 0, none⟩)) [2, 5, 6, 7] rfl (by kernel_rfl) (fun _ _ _ h => h) hS0 (by rfl) (fun w hw => ?_) ?_
          · constructor <;> go_simp
          refine whichever_take 2 (.pointer (some ⟨R, 0, none⟩)) [5, 6, 7] rfl (by kernel_rfl) (fun _ _ _ h => h) hS0 (by rfl) (fun w hw => ?_) ?_
          · constructor <;> go_simp
          refine whichever_take 3 (.int .i64 line) [4, 5, 6, 7] rfl (by kernel_rfl) (fun _ _ _ h => h) hS0 (by rfl) (fun w hw => ?_) ?_
          · constructor <;> go_simp
          refine whichever_next 4 rfl (by kernel_rfl) (by rfl) ?_
          go_simp
          refine ⟨trivial, ?_⟩
          gi_at_call 47
          refine (CallsIn.inRound lp (callsIn_wide.2 (HAT1.out _))).mono ?_
          rintro e w6 ⟨rfl, rfl⟩
          simp only
          refine ⟨hS0, ?_⟩
          refine whichever_next 5 rfl (by kernel_rfl) (by rfl) ?_
          go_simp
          refine ⟨trivial, ?_⟩
          gi_at_call 28
          refine (CallsIn.inRound lp (callsIn_wide.2 HC.out)).mono ?_
          rintro e w6 ⟨rfl, h6, hb6⟩
          simp only
          rw [HRE.out]
          exact ⟨rfl, rfl, h6, HB5.out.trans (hb6.mono hs5)⟩
        | val x l3 =>
          obtain ⟨_, hxf⟩ := loadP_val hr2
          have hx := HX.out x hxf
          have HR2 : Hid (roundQ fed (bytesOf s) line l1 = (someP x l3).bind fun v ats => .val (some v) ats) := HR1.out
          have hsm := fun W => some_any x W hx l3
          clear HR1 hxf
          generalize hr3 : someP x l3 = r3 at HR2 hsm
          cases r3 with
          | stop o l4 =>
            have hl4 : l4 = l3 := by
              unfold someP pointerP at hr3
              split at hr3
              · cases hr3; rfl
              · split at hr3
                · cases hr3
                · cases hr3; rfl
            subst hl4
            have HRE : Hid (roundQ fed (bytesOf s) line l1 = .stop o l4) := HR2.out
            have HSM : Hid (∀ W, Calls Tryz.prog 27 #[.int .u64 (x : Nat)] W fun e W' => e = .panicked [outV o] ∧ W' = W) := fun W => (hsm W).mono fun e w h => ⟨h.1.trans (endOf_stop _ _ _), h.2⟩
            clear HR2 hsm hr3
            gi_wp2_with (refine And.intro trivial ?_; gi_at_call 51; refine (CallsIn.inRound lp (callsIn_wide.2 HFT.out)).mono ?_; rintro e w5 ⟨rfl, h5, hb5⟩)
            have z3 := (hb5.cell (b := W.heap.size) (by omega) q3).trans x3
            have z9 := (hb5.cell (b := B9) (by omega) q9).trans x9
            have zf := (hb5.frozen (b := B9) (by omega) q9).trans y9
            have zq := (hb5.keep B9 (by omega) q9).2
            have HC := Lib.hid (reads_val (loadTo pp w5.drew hpb (by omega) (by omega) HX.out h5.drew') hr2)
            have HB5 : Hid (RB R Wx.heap.size Wx w5.drew) := hb5.trans (RB.drew' R _ w5)
            have hs5 := hb5.size
            clear h5 hb5 hr2
            rename_i KK hKK
            have HKK := Lib.hid hKK
            clear hKK
            have hmx : Tryz.prog.follows .mixedOrders = true := by kernel_rfl
            refine whichever_region (fun w2 => w2.cell? ⟨W.heap.size, 0, none⟩ = some (.pointer (some ⟨R, 0, none⟩))) [5, 6, 7] hmx ?_
            have hS0 : w5.drew.cell? ⟨W.heap.size, 0, none⟩ = some (.pointer (some ⟨R, 0, none⟩)) := z3
            refine whichever_take 0 (.pointer (some ⟨R, 0, none⟩)) [1, 2, 5, 6, 7] rfl (by kernel_rfl) (fun _ _ _ h => h) hS0 (by rfl) (fun w hw => ?_) ?_
            · constructor <;> go_simp
            refine whichever_take 1 (.pointer (some ⟨R, 0, none⟩)) [2, 5, 6, 7] rfl (by kernel_rfl) (fun _ _ _ h => h) hS0 (by rfl) (fun w hw => ?_) ?_
            · constructor <;> go_simp
            refine whichever_take 2 (.pointer (some ⟨R, 0, none⟩)) [5, 6, 7] rfl (by kernel_rfl) (fun _ _ _ h => h) hS0 (by rfl) (fun w hw => ?_) ?_
            · constructor <;> go_simp
            refine whichever_take 3 (.int .i64 line) [4, 5, 6, 7] rfl (by kernel_rfl) (fun _ _ _ h => h) hS0 (by rfl) (fun w hw => ?_) ?_
            · constructor <;> go_simp
            refine whichever_next 4 rfl (by kernel_rfl) (by rfl) ?_
            go_simp
            refine ⟨trivial, ?_⟩
            gi_at_call 47
            refine (CallsIn.inRound lp (callsIn_wide.2 (HAT1.out _))).mono ?_
            rintro e w6 ⟨rfl, rfl⟩
            simp only
            refine ⟨hS0, ?_⟩
            refine whichever_next 5 rfl (by kernel_rfl) (by rfl) ?_
            go_simp
            refine ⟨trivial, ?_⟩
            gi_at_call 28
            refine (CallsIn.inRound lp (callsIn_wide.2 HC.out)).mono ?_
            rintro e w6 ⟨rfl, h6, hb6⟩
            simp only
            refine whichever_next 6 rfl (by kernel_rfl) (by rfl) ?_
            go_simp
            refine ⟨trivial, ?_⟩
            gi_at_call 27
            refine (CallsIn.inRound lp (callsIn_wide.2 (HSM.out _))).mono ?_
            rintro e w7 ⟨rfl, rfl⟩
            simp only
            rw [HRE.out]
            exact ⟨rfl, rfl, h6, HB5.out.trans (hb6.mono hs5)⟩
          | val v l4 =>
            obtain ⟨hv0, hv1, rfl⟩ := someP_ne hr3
            have HRE : Hid (roundQ fed (bytesOf s) line l1 = .val (some v) l4) := HR2.out
            have HSM : Hid (∀ W, Calls Tryz.prog 27 #[.int .u64 (x : Nat)] W fun e W' => e = .returned (.int .i64 (v : Nat)) ∧ W' = W) := hsm
            clear HR2 hsm hr3
            gi_wp2_with (refine And.intro trivial ?_; gi_at_call 51; refine (CallsIn.inRound lp (callsIn_wide.2 HFT.out)).mono ?_; rintro e w5 ⟨rfl, h5, hb5⟩)
            have z3 := (hb5.cell (b := W.heap.size) (by omega) q3).trans x3
            have z9 := (hb5.cell (b := B9) (by omega) q9).trans x9
            have zf := (hb5.frozen (b := B9) (by omega) q9).trans y9
            have zq := (hb5.keep B9 (by omega) q9).2
            have HC := Lib.hid (reads_val (loadTo pp w5.drew hpb (by omega) (by omega) HX.out h5.drew') hr2)
            have HB5 : Hid (RB R Wx.heap.size Wx w5.drew) := hb5.trans (RB.drew' R _ w5)
            have hs5 := hb5.size
            clear h5 hb5 hr2
            rename_i KK hKK
            have HKK := Lib.hid hKK
            clear hKK
            have hmx : Tryz.prog.follows .mixedOrders = true := by kernel_rfl
            refine whichever_region (fun w2 => w2.cell? ⟨W.heap.size, 0, none⟩ = some (.pointer (some ⟨R, 0, none⟩))) [5, 6, 7] hmx ?_
            have hS0 : w5.drew.cell? ⟨W.heap.size, 0, none⟩ = some (.pointer (some ⟨R, 0, none⟩)) := z3
            refine whichever_take 0 (.pointer (some ⟨R, 0, none⟩)) [1, 2, 5, 6, 7] rfl (by kernel_rfl) (fun _ _ _ h => h) hS0 (by rfl) (fun w hw => ?_) ?_
            · constructor <;> go_simp
            refine whichever_take 1 (.pointer (some ⟨R, 0, none⟩)) [2, 5, 6, 7] rfl (by kernel_rfl) (fun _ _ _ h => h) hS0 (by rfl) (fun w hw => ?_) ?_
            · constructor <;> go_simp
            refine whichever_take 2 (.pointer (some ⟨R, 0, none⟩)) [5, 6, 7] rfl (by kernel_rfl) (fun _ _ _ h => h) hS0 (by rfl) (fun w hw => ?_) ?_
            · constructor <;> go_simp
            refine whichever_take 3 (.int .i64 line) [4, 5, 6, 7] rfl (by kernel_rfl) (fun _ _ _ h => h) hS0 (by rfl) (fun w hw => ?_) ?_
            · constructor <;> go_simp
            refine whichever_next 4 rfl (by kernel_rfl) (by rfl) ?_
            go_simp
            refine ⟨trivial, ?_⟩
            gi_at_call 47
            refine (CallsIn.inRound lp (callsIn_wide.2 (HAT1.out _))).mono ?_
            rintro e w6 ⟨rfl, rfl⟩
            simp only
            refine ⟨hS0, ?_⟩
            refine whichever_next 5 rfl (by kernel_rfl) (by rfl) ?_
            go_simp
            refine ⟨trivial, ?_⟩
            gi_at_call 28
            refine (CallsIn.inRound lp (callsIn_wide.2 HC.out)).mono ?_
            rintro e w6 ⟨rfl, h6, hb6⟩
            simp only
            refine whichever_next 6 rfl (by kernel_rfl) (by rfl) ?_
            go_simp
            refine ⟨trivial, ?_⟩
            gi_at_call 27
            refine (CallsIn.inRound lp (callsIn_wide.2 (HSM.out _))).mono ?_
            rintro e w7 ⟨rfl, rfl⟩
            simp only
            have u9 := (hb6.cell (b := B9) (by show B9 < w5.heap.size; omega) zq).trans z9
            have uf := (hb6.frozen (b := B9) (by show B9 < w5.heap.size; omega) zq).trans zf
            have HFI : Hid (RB R Wx.heap.size Wx w7) := HB5.out.trans (hb6.mono hs5)
            clear hb6
            refine whichever_next 7 rfl (by kernel_rfl) (by rfl) ?_
            go_simp
            refine whichever_end (by kernel_rfl) ?_
            go_simp
            refine HKK.out _ _ ?_
            gi_wp2
            rw [HRE.out]
            exact ⟨rfl, w7, h6, HFI.out, rfl⟩
  · intro l' W' hq h1 h2 h3 h4
    have HEF : Hid (findP fed top (bytesOf s) ats = .stop (.err 202) l') := by rw [Hid, HFE.out, hq.out]; rfl
    have g9 := (h2.cell hV29 k9).trans c9
    have HMU := Lib.hid (fun W => must_any false 202 W)
    have hF := h2.keep
    show WpB _ _ _ _ _ _
    refine wpB_of_wp ?_
    go_wp2_with (go_at_call 30; refine (HMU.out _).mono ?_; rintro e w5 ⟨rfl, rfl⟩)
    rw [← hs2]
    refine panic_mark h3 ?_
    rw [HEF.out]
    exact ⟨rfl, h1.putObj h4 (by omega), (HBV.out.trans (h2.mono (by omega))).putObj (by omega) h4.1⟩
  · intro v l' W' hq h1 h2 h3 h4 h5
    have HEF : Hid (findP fed top (bytesOf s) ats = .val v l') := by rw [Hid, HFE.out, hq.out]; rfl
    have hv0 : v ≠ 0 := headQ_ne hq.out
    have hne : ((v : Int) != 0) = true := by rw [bne_iff_ne]; omega
    have HMU := Lib.hid (fun W => must_any true 202 W)
    show WpB _ _ _ _ _ _
    refine wpB_of_wp ?_
    go_wp2_with (go_at_call 30; refine (HMU.out _).mono ?_; rintro e w5 ⟨rfl, rfl⟩)
    rw [← hs2]
    refine ret_mark (v := .int .i64 (v : Nat)) h4 (by simp [results, Tryz.results31, go_sem]) ?_
    rw [HEF.out]
    exact ⟨rfl, h1.putObj h5 (by omega), (HBV.out.trans (h2.mono (by omega))).putObj (by omega) h5.1⟩
  · intro o l' W' hq h1 h2 h3 h4
    have HEF : Hid (findP fed top (bytesOf s) ats = .stop o l') := by rw [Hid, HFE.out, hq.out]; rfl
    refine panic_mark h3 ?_
    rw [HEF.out]
    exact ⟨(endOf_stop _ _ _).symm, h1.putObj h4 (by omega), (HBV.out.trans (h2.mono (by omega))).putObj (by omega) h4.1⟩
end Go.Proofs.YtdlblbhmeidhbaaGreatDoor
