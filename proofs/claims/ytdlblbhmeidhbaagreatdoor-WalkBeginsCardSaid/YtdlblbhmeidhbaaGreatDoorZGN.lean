/- Plain facts on walks; the contract of the reader's walked. Conditions: none. -/
import Derived.Test.YtdlblbhmeidhbaaGreatDoorZGM
namespace Go.Proofs.YtdlblbhmeidhbaaGreatDoor
open Go.RowKit

theorem chainQ_val {fed : List Nat} {s : List UInt8} : ∀ {fuel line v : Nat} {l l' : List Nat}, chainQ fed s fuel line l = .val (some v) l' → v < 1024 ∧ l'.length ≤ fed.length
  | 0, line, v, l, l', h => by
    rw [chainQ] at h
    split at h <;> cases h
  | fuel + 1, line, v, l, l', h => by
    rw [chainQ] at h
    split at h
    · cases h
    · obtain ⟨o, l1, h1, h2⟩ := bind_val h
      cases o with
      | some v' =>
        cases h2
        refine ⟨?_, roundQ_len h1⟩
        obtain ⟨b, l2, h3, h4⟩ := bind_val h1
        split at h4
        · obtain ⟨v'', l3, h5, h6⟩ := bind_val h4
          cases h6
          obtain ⟨x, l5, h7, h8⟩ := bind_val h5
          exact (someP_ne h8).2.1
        · cases h4
      | none =>
        obtain ⟨next, l2, h3, h4⟩ := bind_val h2
        exact chainQ_val h4
theorem findP_val {fed : List Nat} {top v : Nat} {s : List UInt8} {l l' : List Nat} (h : findP fed top s l = .val v l') : v < 1024 ∧ l'.length ≤ fed.length := by
  rw [findP_eq] at h
  obtain ⟨o, l1, h1, h2⟩ := bind_val h
  cases o with
  | none => cases h2
  | some v' =>
    cases h2
    obtain ⟨line, l2, h3, h4⟩ := bind_val h1
    exact chainQ_val h4
theorem nodeP_some {k t : Nat} {n : Nat × Nat × Nat} (h : nodeP k t = some n) : n.1 < 256 ∧ n.2.1 ≤ 200 ∧ n.2.2 < 1024 := by
  unfold nodeP at h
  split at h
  · rename_i hc
    cases h
    exact ⟨Nat.mod_lt _ (by decide), hc.2.2.1, hc.2.2.2.2⟩
  · cases h
theorem enterP_val {fed : List Nat} {line : Nat} {n : Nat × Nat × Nat} {l l' : List Nat} (h : enterP fed line l = .val n l') : n.1 < 256 ∧ n.2.1 ≤ 200 ∧ n.2.2 < 1024 ∧ l'.length ≤ fed.length := by
  obtain ⟨k, l1, h1, h2⟩ := bind_val h
  obtain ⟨t, l2, h3, h4⟩ := bind_val h2
  split at h4
  · rename_i n' hn
    cases h4
    obtain ⟨a, b, c⟩ := nodeP_some hn
    exact ⟨a, b, c, loadP_len h3⟩
  · cases h4
/-- A walk's answer as a value. -/
def encWk (t : Nat × Nat × Nat × Nat) : Value := .tuple #[.int .i64 t.1, encNd t.2]
theorem RdAt.free_lt {R : Nat} {FA : Option Addr} {nf cf : Nat} {fed ats : List Nat} {W : World} (h : RdAt R FA nf cf fed ats W) {b : Nat} (hb : b < R) : FreeAt R W b := by
  obtain ⟨v, hv, ho⟩ := h.atsv
  refine ⟨by omega, fun u hu e => ?_⟩
  rw [hv] at hu
  cases hu
  have := (ho.lt b e).1
  omega
theorem put3_size (W : World) (X : Nat) (a b c : Int) : (put3 W X a b c).heap.size = W.heap.size := by simp [put3, World.setCell]
theorem FreeAt.put3 {R : Nat} {W : World} {X k : Nat} {a b c : Int} (h : FreeAt R W k) (hne : X ≠ R) : FreeAt R (put3 W X a b c) k := ((h.set hne).set hne).set hne
theorem RdAt.put3 {R : Nat} {FA : Option Addr} {nf cf : Nat} {fed ats : List Nat} {W : World} {X : Nat} {a b c : Int} (h : RdAt R FA nf cf fed ats W) (hf : FreeAt R W X) (hR : R ≤ X) : RdAt R FA nf cf fed ats (put3 W X a b c) :=
  ((h.set hf (hR := hR)).set (hf.set hf.1) (hR := hR)).set ((hf.set hf.1).set hf.1) (hR := hR)
theorem RB.put3 {R n X : Nat} {W0 W : World} {a b c : Int} (h : RB R n W0 W) (hn : n ≤ X) (hne : X ≠ R) : RB R n W0 (put3 W X a b c) := ((h.set hn hne).set hn hne).set hn hne
theorem Arr3.rb {R n X : Nat} {W W' : World} {k l t : Int} (h : Arr3 W X k l t) (hb : RB R n W W') (hX : X < n) (hf : FreeAt R W X) : Arr3 W' X k l t :=
  ⟨⟨(hb.cell hX hf).trans h.1.1, (hb.cell hX hf).trans h.1.2.1, (hb.cell hX hf).trans h.1.2.2⟩, fun i => (hb.frozen hX hf).trans (h.2 i)⟩
variable {R : Nat} {FA : Option Addr} {nf cf : Nat} {fed : List Nat}
set_option maxRecDepth 100000 in
set_option maxHeartbeats 8000000 in
theorem walked_any (nm : List (List UInt8)) (NA : Option Addr) (nn cn : Nat) (W : World) (hnn : nm.length = nn) (hn16 : nn ≤ 100) (hcn : nn ≤ cn) (hright : ∀ x ∈ nm, rightB x = true) (hrow : RowAt W NA (nm.map fun x => .string (ofBytes x))) (hNA : 0 < nn → ∀ b off, NA = some ⟨b, off, none⟩ → b < R)
    (hnf : nf ≤ 20000) (hx64 : ∀ x ∈ fed, x < 18446744073709551616) (h : RdAt R FA nf cf fed [] W) :
    Calls Tryz.prog 19 #[.pointer (some ⟨R, 0, none⟩), .slice NA nn cn] W (ReadsTo R FA nf cf fed W encWk (walkedP fed nm)) := by
  have hb1 : Below W.heap.size W (W.alloc (.cells #[.int .i64 0, .int .i64 0, .int .i64 0] 28)) := (Below.refl _ _).alloc (Nat.le_refl _) _
  have hR1 := h.below hb1
  have HFX := Lib.hid (h.free_new hb1 (Nat.le_refl _))
  have HB1 := Lib.hid (RB.of_below hb1 h.lt)
  have HX := Lib.hid hx64
  have HL := Lib.hid (fun (p : Nat) (ats : List Nat) (W : World) (hp : p < 9223372036854775808) (hl : ats.length ≤ 100000) (h : RdAt R FA nf cf fed ats W) => loadTo p W hp hl (by omega) hx64 h)
  have HQ : Hid (walkedP fed nm = (loadP fed 1 []).bind fun x ats => (someP x ats).bind fun line ats => (enterP fed line ats).bind fun n ats => walkL fed nm line n ats) := rfl
  have hfl : fed.length = nf := h.fedl
  have hRlt := h.lt
  have hA1 : Arr3 (W.alloc (.cells #[.int .i64 0, .int .i64 0, .int .i64 0] 28)) W.heap.size 0 0 0 := ⟨⟨cell_new W _ _ 0 _ rfl, cell_new W _ _ 1 _ rfl, cell_new W _ _ 2 _ rfl⟩, fun i => (World.frozen?_of_block (w := W.alloc (.cells #[.int .i64 0, .int .i64 0, .int .i64 0] 28)) rfl).trans (by simp)⟩
  obtain ⟨W1, hW1⟩ : ∃ W1, W.alloc (.cells #[.int .i64 0, .int .i64 0, .int .i64 0] 28) = W1 := ⟨_, rfl⟩
  have hs1 : W1.heap.size = W.heap.size + 1 := by rw [← hW1]; simp
  rw [hW1] at hA1 hb1 hR1 HFX HB1
  have HR1 := Lib.hid hR1
  have HA1 := Lib.hid hA1
  have HROW := Lib.hid hrow
  have HNA := Lib.hid hNA
  have HRI := Lib.hid hright
  have HFLT := Lib.hid (fun b (hb : b < R) => h.free_lt hb)
  clear h hx64 hR1 hA1 hrow hNA hright
  generalize hr1 : loadP fed 1 [] = r1 at HQ
  cases r1 with
  | stop o l1 =>
    have HEF : Hid (walkedP fed nm = .stop o l1) := HQ.out
    have HC := Lib.hid (reads_stop (HL.out 1 [] W1 (by omega) (by simp) HR1.out) hr1)
    clear hr1 HQ
    go_enter Tryz.func19, Tryz.ntmps19
    go_wp2_with fail
    refine HC.out.mono ?_
    rintro e w2 ⟨rfl, h2, hb2⟩
    go_wp2_with fail
    exact ⟨rfl, by rw [HEF.out]; exact ⟨(endOf_stop _ _ _).symm, h2, HB1.out.trans (hb2.mono (by omega))⟩⟩
  | val x l1 =>
    obtain ⟨_, hxf⟩ := loadP_val hr1
    have hx := HX.out x hxf
    have hlen1 := loadP_len hr1
    rw [hfl] at hlen1
    have HC := Lib.hid (reads_val (HL.out 1 [] W1 (by omega) (by simp) HR1.out) hr1)
    have HQ1 : Hid (walkedP fed nm = (someP x l1).bind fun line ats => (enterP fed line ats).bind fun n ats => walkL fed nm line n ats) := HQ.out
    have hsm := fun W => some_any x W hx l1
    clear hr1 HQ hxf
    generalize hr2 : someP x l1 = r2 at HQ1 hsm
    cases r2 with
    | stop o l2 =>
      have hl2 : l2 = l1 := by
        unfold someP pointerP at hr2
        split at hr2
        · cases hr2; rfl
        · split at hr2
          · cases hr2
          · cases hr2; rfl
      subst hl2
      have HEF : Hid (walkedP fed nm = .stop o l2) := HQ1.out
      have HSM : Hid (∀ W, Calls Tryz.prog 27 #[.int .u64 (x : Nat)] W fun e W' => e = .panicked [outV o] ∧ W' = W) := fun W => (hsm W).mono fun e w h => ⟨h.1.trans (endOf_stop _ _ _), h.2⟩
      clear HQ1 hsm hr2
      go_enter Tryz.func19, Tryz.ntmps19
      go_wp2_with fail
      refine HC.out.mono ?_
      rintro e w2 ⟨rfl, h2, hb2⟩
      go_wp2_with (go_at_call 27; refine (HSM.out _).mono ?_; rintro e w3 ⟨rfl, rfl⟩)
      exact ⟨rfl, by rw [HEF.out]; exact ⟨(endOf_stop _ _ _).symm, h2, HB1.out.trans (hb2.mono (by omega))⟩⟩
    | val ln l2 =>
      obtain ⟨hv0, hv1, rfl⟩ := someP_ne hr2
      have HQ2 : Hid (walkedP fed nm = (enterP fed ln l2).bind fun n ats => walkL fed nm ln n ats) := HQ1.out
      have HSM : Hid (∀ W, Calls Tryz.prog 27 #[.int .u64 (x : Nat)] W fun e W' => e = .returned (.int .i64 (ln : Nat)) ∧ W' = W) := hsm
      have HEN := Lib.hid (fun (ln : Nat) (l : List Nat) (W : World) (h1 : ln < 1024) (h2 : l.length ≤ nf) (h3 : RdAt R FA nf cf fed l W) => enter_any ln W (by omega) (by omega) (by omega) HX.out h3)
      clear HQ1 hsm hr2
      generalize hr3 : enterP fed ln l2 = r3 at HQ2
      cases r3 with
      | stop o l3 =>
        have HEF : Hid (walkedP fed nm = .stop o l3) := HQ2.out
        go_enter Tryz.func19, Tryz.ntmps19
        go_wp2_with fail
        refine HC.out.mono ?_
        rintro e w2 ⟨rfl, h2, hb2⟩
        have hs2 := hb2.size
        have HB2 := Lib.hid (HB1.out.trans (hb2.mono (by omega)))
        have HE := Lib.hid (reads_stop (HEN.out ln l2 w2 hv1 hlen1 h2) hr3)
        clear h2 hb2
        go_wp2_with (first | (go_at_call 27; refine (HSM.out _).mono ?_; rintro e w3 ⟨rfl, rfl⟩) | (go_at_call 29; refine HE.out.mono ?_; rintro e w4 ⟨rfl, h4, hb4⟩))
        exact ⟨rfl, by rw [HEF.out]; exact ⟨(endOf_stop _ _ _).symm, h4, HB2.out.trans (hb4.mono (by have := HB2.out.size; omega))⟩⟩
      | val nd l3 =>
        obtain ⟨a, b, c⟩ := nd
        obtain ⟨ha, hb, hc, hlen3⟩ := enterP_val hr3
        rw [hfl] at hlen3
        simp only at ha hb hc
        have HQ3 : Hid (walkedP fed nm = walkL fed nm ln (a, b, c) l3) := HQ2.out
        clear HQ2
        go_enter Tryz.func19, Tryz.ntmps19
        go_wp2_with fail
        refine HC.out.mono ?_
        rintro e w2 ⟨rfl, h2, hb2⟩
        have hs2 := hb2.size
        have HB2 := Lib.hid (HB1.out.trans (hb2.mono (by omega)))
        have HE := reads_val (HEN.out ln l2 w2 hv1 hlen1 h2) hr3
        unfold encNd encN at HE
        have HE := Lib.hid HE
        have hf2 := (hb2.keep W.heap.size (by omega) HFX.out).2
        have hA2 := HA1.out.rb hb2 (by omega) HFX.out
        clear h2 hb2 hr3
        go_wp2_with (first | (go_at_call 27; refine (HSM.out _).mono ?_; rintro e w3 ⟨rfl, rfl⟩))
        refine HE.out.mono ?_
        rintro e w4 ⟨rfl, h4, hb4⟩
        have hA4 := hA2.rb hb4 (by omega) hf2
        have hf4 := (hb4.keep W.heap.size (by omega) hf2).2
        have hs4 := hb4.size
        have HB4 := Lib.hid (HB2.out.trans (hb4.mono (by omega)))
        have HP := Lib.hid (put3_arr hA4 a b c)
        have HR4 := Lib.hid (RdAt.put3 (a := a) (b := b) (c := c) h4 hf4 (by omega))
        have HF4 := Lib.hid (FreeAt.put3 (X := W.heap.size) (a := a) (b := b) (c := c) hf4 (by omega))
        have HB5 := Lib.hid (RB.put3 (a := a) (b := b) (c := c) HB4.out (Nat.le_refl _) (by omega))
        obtain ⟨⟨x0, x1, x2⟩, xf⟩ := hA4
        have y0 := xf 0
        have y1 := xf 1
        have y2 := xf 2
        unfold put3 at HP HR4 HF4 HB5
        clear hb4 h4 hf4 hA2 hf2 xf HE
        go_wp2_with fail
        go_loopw [4, 18] (fun lnv i wr => ∃ (j ln a b c : Nat) (l' : List Nat), j ≤ nn ∧ i = .int .i64 j ∧ lnv = .int .i64 ln ∧ ln < 1024 ∧ a < 256 ∧ b ≤ 200 ∧ c < 1024 ∧ l'.length ≤ nf ∧ RdAt R FA nf cf fed l' wr ∧ RB R W.heap.size W wr ∧ FreeAt R wr W.heap.size ∧ Arr3 wr W.heap.size a b c ∧ Hid (walkedP fed nm = walkL fed (nm.drop j) ln (a, b, c) l')) (fun _ i _ => nn - (intOf i).toNat)
        case atStart => exact ⟨0, ln, a, b, c, l3, Nat.zero_le _, rfl, rfl, hv1, ha, hb, hc, hlen3, HR4.out, HB5.out, HF4.out, HP.out, HQ3.out⟩
        case round =>
          obtain ⟨j, ln2, a2, b2, c2, l', hj, rfl, rfl, hln2, ha2, hb2, hc2, hl', hrd, hrb, hfr, hA, hq⟩ := hrel
          by_cases hlt : j < nn
          · have hjl : j < nm.length := by omega
            obtain ⟨x', hx'⟩ : ∃ x', nm[j]? = some x' := ⟨_, List.getElem?_eq_getElem hjl⟩
            have hdrop : nm.drop j = x' :: nm.drop (j + 1) := by
              rw [List.drop_eq_getElem_cons hjl]
              exact congrArg (· :: nm.drop (j + 1)) (Option.some.inj ((List.getElem?_eq_getElem hjl).symm.trans hx'))
            have hxr := HRI.out x' (List.mem_of_getElem? hx')
            obtain ⟨b0, off0, hNAe, hb0, hcells⟩ := HROW.out (by rw [List.length_map]; omega)
            have hb0R := HNA.out (by omega) b0 off0 hNAe
            have hcj : wr.cell? ⟨b0, off0 + j, none⟩ = some (.string (ofBytes x')) := (hrb.cell hb0 (HFLT.out b0 hb0R)).trans (hcells j _ (by rw [List.getElem?_map, hx']; rfl))
            have HQ4 : Hid (walkedP fed nm = if a2 = 2 then (findP fed c2 x' l').bind fun line ats => (enterP fed line ats).bind fun n ats => walkL fed (nm.drop (j + 1)) line n ats else .stop (.err 201) l') := by rw [Hid, hq.out, hdrop]; rfl
            have hj0 : (0 : Int) ≤ (j : Int) := by omega
            have hjm : (j : Int) < (nn : Int) := by omega
            have hjn : IntKind.i64.wrap ((j : Int) + 1) = ((j + 1 : Nat) : Int) := by rw [IntWalk.i64_in _ (by omega)]; omega
            have HAA := Lib.hid hA
            obtain ⟨⟨x0, x1, x2⟩, xf⟩ := id hA
            have y0 := xf 0
            have y1 := xf 1
            have y2 := xf 2
            subst hNAe
            clear hq hdrop hcells xf hA
            by_cases h22 : a2 = 2
            · have hk1 : ((a2 : Int) == 2) = true := by rw [beq_iff_eq]; omega
              have HMU := Lib.hid (fun W => must_any true 201 W)
              have HQ5 : Hid (walkedP fed nm = (findP fed c2 x' l').bind fun line ats => (enterP fed line ats).bind fun n ats => walkL fed (nm.drop (j + 1)) line n ats) := by rw [Hid, HQ4.out, if_pos h22]
              have hfd := find_any c2 (ofBytes x') wr hc2 (by rw [bytesOf_ofBytes]; exact hxr) (by omega) hnf HX.out hrd
              rw [bytesOf_ofBytes] at hfd
              clear HQ4
              generalize hr4 : findP fed c2 x' l' = r4 at HQ5 hfd
              cases r4 with
              | stop o l4 =>
                have HEF : Hid (walkedP fed nm = .stop o l4) := HQ5.out
                have HFD := Lib.hid (reads_stop hfd rfl)
                have HRB := Lib.hid hrb
                have hsr := hrb.size
                clear hfd HQ5 hr4 hrb
                go_wp2_with (first | (go_at_call 30; refine (HMU.out _).mono ?_; rintro e w5 ⟨rfl, rfl⟩) | (go_at_call 31; refine HFD.out.mono ?_; rintro e w6 ⟨rfl, h6, hb6⟩))
                exact ⟨rfl, by rw [HEF.out]; exact ⟨(endOf_stop _ _ _).symm, h6, HRB.out.trans (hb6.mono hsr)⟩⟩
              | val v l4 =>
                obtain ⟨hv, hlen4⟩ := findP_val hr4
                rw [hfl] at hlen4
                have HQ6 : Hid (walkedP fed nm = (enterP fed v l4).bind fun n ats => walkL fed (nm.drop (j + 1)) v n ats) := HQ5.out
                have HFD := Lib.hid (reads_val hfd rfl)
                have HRB := Lib.hid hrb
                have HFR := Lib.hid hfr
                have hsr := hrb.size
                have hWr : W.heap.size < wr.heap.size := World.block_lt_of_cell? wr ⟨W.heap.size, 0, none⟩ x0
                clear hfd HQ5 hr4 hrb hfr
                generalize hr5 : enterP fed v l4 = r5 at HQ6
                go_wp2_with (first | (go_at_call 30; refine (HMU.out _).mono ?_; rintro e w5 ⟨rfl, rfl⟩) | (go_at_call 31; refine HFD.out.mono ?_; rintro e w6 ⟨rfl, h6, hb6⟩))
                have hs6 := hb6.size
                have HB6 := Lib.hid (HRB.out.trans (hb6.mono hsr))
                have HA6 := Lib.hid (HAA.out.rb hb6 hWr HFR.out)
                have HF6 := Lib.hid (hb6.keep W.heap.size hWr HFR.out).2
                cases r5 with
                | stop o l5 =>
                  have HEF : Hid (walkedP fed nm = .stop o l5) := HQ6.out
                  have HE := Lib.hid (reads_stop (HEN.out v l4 _ hv hlen4 h6) hr5)
                  clear h6 hb6 hr5
                  refine HE.out.mono ?_
                  rintro e w7 ⟨rfl, h7, hb7⟩
                  go_wp2_with fail
                  exact ⟨rfl, by rw [HEF.out]; exact ⟨(endOf_stop _ _ _).symm, h7, HB6.out.trans (hb7.mono (by omega))⟩⟩
                | val nd l5 =>
                  obtain ⟨a3, b3, c3⟩ := nd
                  obtain ⟨ha3, hb3, hc3, hlen5⟩ := enterP_val hr5
                  rw [hfl] at hlen5
                  simp only at ha3 hb3 hc3
                  have HQ7 : Hid (walkedP fed nm = walkL fed (nm.drop (j + 1)) v (a3, b3, c3) l5) := HQ6.out
                  have HE := reads_val (HEN.out v l4 _ hv hlen4 h6) hr5
                  unfold encNd encN at HE
                  have HE := Lib.hid HE
                  clear h6 hb6 hr5 HQ6 x0 x1 x2 y0 y1 y2
                  refine HE.out.mono ?_
                  rintro e w7 ⟨rfl, h7, hb7⟩
                  have hA7 := HA6.out.rb hb7 (by omega) HF6.out
                  have hf7 := (hb7.keep W.heap.size (by omega) HF6.out).2
                  have HB7 := Lib.hid (HB6.out.trans (hb7.mono (by omega)))
                  have HP7 := Lib.hid (put3_arr hA7 a3 b3 c3)
                  have HR7 := Lib.hid (RdAt.put3 (a := a3) (b := b3) (c := c3) h7 hf7 (by omega))
                  have HF7 := Lib.hid (FreeAt.put3 (X := W.heap.size) (a := a3) (b := b3) (c := c3) hf7 (by omega))
                  have HB8 := Lib.hid (RB.put3 (a := a3) (b := b3) (c := c3) HB7.out (Nat.le_refl _) (by omega))
                  obtain ⟨⟨x0, x1, x2⟩, xf⟩ := hA7
                  have y0 := xf 0
                  have y1 := xf 1
                  have y2 := xf 2
                  unfold put3 at HP7 HR7 HF7 HB8
                  clear hb7 h7 hf7 xf HE HA6 HF6
                  go_wp2_with fail
                  go_roundw
                  case rel => exact ⟨j + 1, v, a3, b3, c3, l5, by omega, rfl, rfl, hv, ha3, hb3, hc3, hlen5, HR7.out, HB8.out, HF7.out, HP7.out, HQ7.out⟩
                  case measure => simp [intOf]; omega
            · have hk1 : ((a2 : Int) == 2) = false := by rw [beq_eq_false_iff_ne]; omega
              have HMU := Lib.hid (fun W => must_any false 201 W)
              have HEF : Hid (walkedP fed nm = .stop (.err 201) l') := by rw [Hid, HQ4.out, if_neg h22]
              have HRB := Lib.hid hrb
              clear HQ4 hrb
              go_wp2_with (first | (go_at_call 30; refine (HMU.out _).mono ?_; rintro e w5 ⟨rfl, rfl⟩))
              exact ⟨rfl, by rw [HEF.out]; exact ⟨rfl, hrd, HRB.out⟩⟩
          · have hjm : j = nn := by omega
            subst hjm
            have HEF : Hid (walkedP fed nm = .val (ln2, a2, b2, c2) l') := by
              rw [Hid, hq.out, List.drop_eq_nil_of_le (by omega)]; rfl
            obtain ⟨⟨x0, x1, x2⟩, xf⟩ := id hA
            have y0 := xf 0
            have y1 := xf 1
            have y2 := xf 2
            have HRB := Lib.hid hrb
            clear hq hrb xf
            go_wp2_with fail
            have HP7 := Lib.hid (put3_arr hA a2 b2 c2)
            have HR7 := Lib.hid (RdAt.put3 (a := a2) (b := b2) (c := c2) hrd hfr (by omega)).drew'
            have HB8 := Lib.hid ((RB.put3 (a := a2) (b := b2) (c := c2) HRB.out (Nat.le_refl _) (by omega)).trans (RB.drew' R W.heap.size _))
            obtain ⟨⟨g0, g1, g2⟩, _⟩ := HP7.out
            unfold put3 at g0 g1 g2 HR7 HB8
            refine box_tail 3 (by kernel_rfl) (by kernel_rfl) ?_
            simp only [List.take_succ_cons, List.take_zero, List.drop_succ_cons, List.drop_zero]
            iterate 3
              refine box_step (fun K hK => ?_)
              go_simp
              refine hK _ ?_
              clear hK K
            refine ⟨wpStill_nil ?_⟩
            go_wp2_with fail
            refine bodyPost_ret (v := encWk (ln2, a2, b2, c2)) (by simp [results, Tryz.results19, go_sem, g0, g1, g2, encWk, encNd, encN]) rfl ?_
            rw [HEF.out]
            exact ⟨rfl, HR7.out, HB8.out⟩
end Go.Proofs.YtdlblbhmeidhbaaGreatDoor
