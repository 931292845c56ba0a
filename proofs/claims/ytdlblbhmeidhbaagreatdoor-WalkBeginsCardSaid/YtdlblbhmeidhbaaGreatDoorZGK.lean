/- What comes of a chain's iterator, called with any yield that keeps the reader. Conditions: none. -/
import Derived.Test.YtdlblbhmeidhbaaGreatDoorZGJ
import Derived.Test.YtdlblbhmeidhbaaGreatDoorZK7
namespace Go.Proofs.YtdlblbhmeidhbaaGreatDoor
open Go.RowKit

/-- How a round's yield ends. -/
def YPost (G : List Nat → World → Prop) (D : Nat → List Nat → World → Prop) (Pn : List Nat → World → Prop) (r : Res (Option Nat)) (e : Ending) (W' : World) : Prop :=
  match r with
  | .val none l => e = .returned (.bool true) ∧ G l W'
  | .val (some v) l => e = .returned (.bool false) ∧ D v l W'
  | .stop o l => e = .panicked [outV o] ∧ Pn l W'
/-- How the iterator ends. -/
def CPost (G : List Nat → World → Prop) (D : Nat → List Nat → World → Prop) (Pn : List Nat → World → Prop) (r : Res (Option Nat)) (e : Ending) (W' : World) : Prop :=
  match r with
  | .val none l => e = .returned (.tuple #[]) ∧ G l W'
  | .val (some v) l => e = .returned (.tuple #[]) ∧ D v l W'
  | .stop o l => e = .panicked [outV o] ∧ Pn l W'
/-- Two boxes: the reader, and the chain's head. -/
def ChainAt (R Rb Hb head : Nat) (W : World) : Prop := W.cell? ⟨Rb, 0, none⟩ = some (.pointer (some ⟨R, 0, none⟩)) ∧ W.cell? ⟨Hb, 0, none⟩ = some (.int .i64 head)
variable {R : Nat} {FA : Option Addr} {nf cf : Nat} {fed ats : List Nat}
set_option maxRecDepth 100000 in
set_option maxHeartbeats 8000000 in
theorem chain1_in (l Rb Hb head : Nat) (s : List UInt8) (G : List Nat → World → Prop) (D : Nat → List Nat → World → Prop) (Pn : List Nat → World → Prop) (W : World)
    (hhead : head < 9223372036854775808) (hl : ats.length ≤ 100000) (hnf : nf ≤ 20000) (hx64 : ∀ x ∈ fed, x < 18446744073709551616)
    (hG : ∀ l W, G l W → RdAt R FA nf cf fed l W ∧ ChainAt R Rb Hb head W)
    (hGk : ∀ l l' W W', G l W → RdAt R FA nf cf fed l' W' → RB R W.heap.size W W' → G l' W')
    (hGp : ∀ l W, G l W → Pn l W)
    (hY : ∀ line l1 W1, 1 ≤ line → line < 1024 → l1.length ≤ nf → G l1 W1 → Yields Tryz.prog l #[.int .i64 (line : Nat)] W1 (YPost G D Pn (roundQ fed s line l1)))
    (h0 : G ats W) :
    Calls Tryz.prog 69 #[.func (.yield l) #[] #[], .pointer (some ⟨Rb, 0, none⟩), .pointer (some ⟨Hb, 0, none⟩)] W (CPost G D Pn (headQ fed s head ats)) := by
  have HL := Lib.hid (fun (p : Nat) (ats : List Nat) (W : World) (hp : p < 9223372036854775808) (hl : ats.length ≤ 100000) (h : RdAt R FA nf cf fed ats W) => loadTo p W hp hl (by omega) hx64 h)
  have HG := Lib.hid hG
  have HGK := Lib.hid hGk
  have HGP := Lib.hid hGp
  have HY := Lib.hid hY
  have HX := Lib.hid hx64
  have H0 := Lib.hid h0
  obtain ⟨hrd, hc1, hc2⟩ := hG _ _ h0
  have HR := Lib.hid hrd
  have HQ : Hid (headQ fed s head ats = ((loadP fed head ats).bind pointerP).bind fun line ats => chainQ fed s 1024 line ats) := rfl
  have HPT := Lib.hid (fun x W l hx => pointerTo x W hx l)
  have hfl : fed.length = nf := hrd.fedl
  clear hG hGk hGp hY hx64 h0 hrd
  generalize hr1 : loadP fed head ats = r1 at HQ
  cases r1 with
  | stop o l1 =>
    have HQ' : Hid (headQ fed s head ats = .stop o l1) := HQ.out
    have HC := Lib.hid (reads_stop (HL.out _ _ _ hhead hl HR.out.drew') hr1)
    clear hr1 HQ
    refine (callsIn_wide (n := 10)).1 ?_
    refine callsIn_of_wp Tryz.func69 rfl trivial ?_ rfl
    simp only [Tryz.ntmps69, List.size_toArray, List.length_cons, List.length_nil, Nat.reduceAdd, Nat.reduceSub, Array.replicate_succ, Array.replicate_zero, List.push_toArray, List.append_toArray, List.nil_append, List.cons_append]
    gi_wp2
    refine wpIn_wide.2 ?_
    refine box_tail 4 (by kernel_rfl) (by kernel_rfl) ?_
    simp only [List.take_succ_cons, List.take_zero, List.drop_succ_cons, List.drop_zero]
    iterate 4
      refine box_step (fun K hK => ?_)
      go_simp
      refine hK _ ?_
      clear hK K
    refine ⟨wpStill_nil ?_⟩
    go_wp2_with (go_at_call 28; refine HC.out.mono ?_; rintro e w2 ⟨rfl, h2, hb2⟩)
    exact ⟨rfl, by rw [HQ'.out]; exact ⟨rfl, HGP.out _ _ (HGK.out _ _ _ _ H0.out h2 ((RB.drew' R W.heap.size W).trans hb2))⟩⟩
  | val x l1 =>
    obtain ⟨_, hxf⟩ := loadP_val hr1
    have hx := HX.out x hxf
    have hlen := loadP_len hr1
    rw [hfl] at hlen
    have HC := Lib.hid (reads_val (HL.out _ _ _ hhead hl HR.out.drew') hr1)
    have HQ1 : Hid (headQ fed s head ats = (pointerP x l1).bind fun line ats => chainQ fed s 1024 line ats) := HQ.out
    clear hr1 HQ hxf
    generalize hr2 : pointerP x l1 = r2 at HQ1
    have hpt := fun W => HPT.out x W l1 hx
    rw [hr2] at hpt
    cases r2 with
    | stop o l2 =>
      have HQ' : Hid (headQ fed s head ats = .stop o l2) := HQ1.out
      have hl2 : l2 = l1 := by
        unfold pointerP at hr2
        split at hr2
        · cases hr2
        · cases hr2; rfl
      subst hl2
      have HPP : Hid (∀ W, Calls Tryz.prog 46 #[.int .u64 (x : Nat)] W fun e W' => e = .panicked [outV o] ∧ W' = W) := fun W => (hpt W).mono fun e w h => ⟨h.1.trans (endOf_stop _ _ _), h.2⟩
      clear hr2 HQ1 hpt
      refine (callsIn_wide (n := 10)).1 ?_
      refine callsIn_of_wp Tryz.func69 rfl trivial ?_ rfl
      simp only [Tryz.ntmps69, List.size_toArray, List.length_cons, List.length_nil, Nat.reduceAdd, Nat.reduceSub, Array.replicate_succ, Array.replicate_zero, List.push_toArray, List.append_toArray, List.nil_append, List.cons_append]
      gi_wp2
      refine wpIn_wide.2 ?_
      refine box_tail 4 (by kernel_rfl) (by kernel_rfl) ?_
      simp only [List.take_succ_cons, List.take_zero, List.drop_succ_cons, List.drop_zero]
      iterate 4
        refine box_step (fun K hK => ?_)
        go_simp
        refine hK _ ?_
        clear hK K
      refine ⟨wpStill_nil ?_⟩
      go_wp2_with (first | (go_at_call 28; refine HC.out.mono ?_; rintro e w2 ⟨rfl, h2, hb2⟩) | (go_at_call 46; refine (HPP.out _).mono ?_; rintro e w3 ⟨rfl, rfl⟩))
      exact ⟨rfl, by rw [HQ'.out]; exact ⟨rfl, HGP.out _ _ (HGK.out _ _ _ _ H0.out h2 ((RB.drew' R W.heap.size W).trans hb2))⟩⟩
    | val y l2 =>
      obtain ⟨rfl, hy, rfl⟩ := pointerP_val hr2
      have HQ' : Hid (headQ fed s head ats = chainQ fed s 1024 y l2) := HQ1.out
      have HPP : Hid (∀ W, Calls Tryz.prog 46 #[.int .u64 (y : Nat)] W fun e W' => e = .returned (.int .i64 (y : Nat)) ∧ W' = W) := hpt
      clear hr2 HQ1 hpt
      refine (callsIn_wide (n := 10)).1 ?_
      refine callsIn_of_wp Tryz.func69 rfl trivial ?_ rfl
      simp only [Tryz.ntmps69, List.size_toArray, List.length_cons, List.length_nil, Nat.reduceAdd, Nat.reduceSub, Array.replicate_succ, Array.replicate_zero, List.push_toArray, List.append_toArray, List.nil_append, List.cons_append]
      gi_wp2
      refine wpIn_wide.2 ?_
      refine box_tail 4 (by kernel_rfl) (by kernel_rfl) ?_
      simp only [List.take_succ_cons, List.take_zero, List.drop_succ_cons, List.drop_zero]
      iterate 4
        refine box_step (fun K hK => ?_)
        go_simp
        refine hK _ ?_
        clear hK K
      refine ⟨wpStill_nil ?_⟩
      go_wp2_with (first | (go_at_call 28; refine HC.out.mono ?_; rintro e w2 ⟨rfl, h2, hb2⟩) | (go_at_call 46; refine (HPP.out _).mono ?_; rintro e w3 ⟨rfl, rfl⟩))
      have HG2 := Lib.hid (HGK.out _ _ _ _ H0.out h2 ((RB.drew' R W.heap.size W).trans hb2))
      clear h2 hb2 HC HPP
      gi_wp2
      gi_loopw [4, 5] (fun many line wr => ∃ (m ln : Nat) (l' : List Nat), m ≤ 1024 ∧ many = .int .i64 m ∧ line = .int .i64 ln ∧ ln < 1024 ∧ l'.length ≤ nf ∧ G l' wr ∧ Hid (headQ fed s head ats = chainQ fed s (1024 - m) ln l')) (fun many _ _ => 1025 - (intOf many).toNat)
      case atStart => exact ⟨0, y, l2, Nat.zero_le _, rfl, rfl, hy, hlen, HG2.out, HQ'.out⟩
      case round =>
        obtain ⟨m, ln, l', hm, rfl, rfl, hln, hl', hg, hq⟩ := hrel
        by_cases hz : ln = 0
        · subst hz
          have HQ2 : Hid (headQ fed s head ats = .val none l') := by
            rw [Hid, hq.out]
            cases 1024 - m <;> simp [chainQ]
          gi_wp2
          go_end0
          rw [HQ2.out]
          exact ⟨rfl, hg⟩
        · have hne : ((ln : Int) != 0) = true := by rw [bne_iff_ne]; omega
          by_cases hm2 : m = 1024
          · subst hm2
            have HQ2 : Hid (headQ fed s head ats = .stop (.err 300) l') := by
              rw [Hid, hq.out, Nat.sub_self, chainQ, if_neg hz]
            have HMU := Lib.hid (fun W => must_any false 300 W)
            gi_wp2_with (refine And.intro trivial ?_; gi_at_call 30; refine callsIn_wide.2 ((HMU.out _).mono ?_); rintro e w3 ⟨rfl, rfl⟩)
            exact ⟨rfl, by rw [HQ2.out]; exact ⟨rfl, HGP.out _ _ hg⟩⟩
          · obtain ⟨k, hk⟩ : ∃ k, 1024 - m = k + 1 := ⟨1023 - m, by omega⟩
            have hk2 : 1024 - (m + 1) = k := by omega
            have HQ2 : Hid (headQ fed s head ats = (roundQ fed s ln l').bind fun is ats => match is with | some v => .val (some v) ats | none => ((loadP fed (ln * 8 + 0) ats).bind pointerP).bind fun next ats => chainQ fed s k next ats) := by
              rw [Hid, hq.out, hk, chainQ, if_neg hz]
              rcases roundQ fed s ln l' with ⟨_ | _, _⟩ | _ <;> rfl
            have HMU := Lib.hid (fun W => must_any true 300 W)
            have hmi : (m : Int) < 1024 := by omega
            have hm1 : IntKind.i64.wrap ((m : Int) + 1) = ((m + 1 : Nat) : Int) := by rw [IntWalk.i64_in _ (by omega)]; omega
            have hyy := HY.out ln l' wr (by omega) hln hl' hg
            clear hq
            generalize hr3 : roundQ fed s ln l' = r3 at HQ2 hyy
            cases r3 with
            | stop o l3 =>
              have HQ3 : Hid (headQ fed s head ats = .stop o l3) := HQ2.out
              clear HQ2 hr3
              obtain ⟨fn, tmps, assign, body, hy, hR⟩ := hyy
              gi_wp2_with (refine And.intro trivial ?_; gi_at_call 30; refine callsIn_wide.2 ((HMU.out _).mono ?_); rintro e w3 ⟨rfl, rfl⟩)
              refine (hR _).mono ?_
              rintro e W3 ⟨rfl, hp⟩
              gi_wp2
              exact ⟨rfl, by rw [HQ3.out]; exact ⟨rfl, hp⟩⟩
            | val ov l3 =>
              cases ov with
              | some v =>
                have HQ3 : Hid (headQ fed s head ats = .val (some v) l3) := HQ2.out
                clear HQ2 hr3
                obtain ⟨fn, tmps, assign, body, hy, hR⟩ := hyy
                gi_wp2_with (refine And.intro trivial ?_; gi_at_call 30; refine callsIn_wide.2 ((HMU.out _).mono ?_); rintro e w3 ⟨rfl, rfl⟩)
                refine (hR _).mono ?_
                rintro e W3 ⟨rfl, hp⟩
                gi_wp2
                refine bodyPost_ret (results_none rfl _ _ _) rfl ?_
                rw [HQ3.out]
                exact ⟨rfl, hp⟩
              | none =>
                have hlen3 := roundQ_len hr3
                rw [hfl] at hlen3
                have HQ3 : Hid (headQ fed s head ats = ((loadP fed (ln * 8 + 0) l3).bind pointerP).bind fun next ats => chainQ fed s k next ats) := HQ2.out
                clear HQ2 hr3 hg
                obtain ⟨fn, tmps, assign, body, hy, hR⟩ := hyy
                gi_wp2_with (refine And.intro trivial ?_; gi_at_call 30; refine callsIn_wide.2 ((HMU.out _).mono ?_); rintro e w3 ⟨rfl, rfl⟩)
                refine (hR _).mono ?_
                rintro e W3 ⟨rfl, hg3⟩
                obtain ⟨hrd3, hc3, hd3⟩ := HG.out _ _ hg3
                have hat := fun W => at_any ln 0 W (by omega)
                have hqb : ln * 8 + 0 < 9223372036854775808 := by omega
                obtain ⟨q, hqq⟩ : ∃ q, ln * 8 + 0 = q := ⟨_, rfl⟩
                rw [hqq] at hat hqb HQ3
                have HAT := Lib.hid hat
                have HL3 := HL.out q l3 _ hqb (by omega) hrd3.drew'
                have HG3 := Lib.hid hg3
                clear hat hqq hg3 hR hy
                generalize hr4 : loadP fed q l3 = r4 at HQ3
                cases r4 with
                | stop o l4 =>
                  have HQ4 : Hid (headQ fed s head ats = .stop o l4) := HQ3.out
                  have HC := Lib.hid (reads_stop HL3 hr4)
                  clear hr4 HQ3 HL3 hrd3
                  gi_wp2
                  refine wpIn_wide.2 ?_
                  refine box_tail 5 (by kernel_rfl) (by kernel_rfl) ?_
                  simp only [List.take_succ_cons, List.take_zero, List.drop_succ_cons, List.drop_zero]
                  iterate 4
                    refine box_step (fun K hK => ?_)
                    go_simp
                    refine hK _ ?_
                    clear hK K
                  refine box_step (fun K hK => ?_)
                  go_simp
                  refine ⟨_, HAT.out _, hK _ ?_⟩
                  clear hK K
                  refine ⟨wpStill_nil ?_⟩
                  go_wp2_with (go_at_call 28; refine HC.out.mono ?_; rintro e w4 ⟨rfl, h4, hb4⟩)
                  exact ⟨rfl, by rw [HQ4.out]; exact ⟨rfl, HGP.out _ _ (HGK.out _ _ _ _ HG3.out h4 ((RB.drew' R _ W3).trans hb4))⟩⟩
                | val x4 l4 =>
                  obtain ⟨_, hxf4⟩ := loadP_val hr4
                  have hx4 := HX.out x4 hxf4
                  have hlen4 := loadP_len hr4
                  rw [hfl] at hlen4
                  have HC := Lib.hid (reads_val HL3 hr4)
                  have HQ4 : Hid (headQ fed s head ats = (pointerP x4 l4).bind fun line ats => chainQ fed s k line ats) := HQ3.out
                  have hpt := fun W => HPT.out x4 W l4 hx4
                  clear hr4 HQ3 hxf4 HL3 hrd3
                  generalize hr5 : pointerP x4 l4 = r5 at HQ4 hpt
                  cases r5 with
                  | stop o l5 =>
                    have HQ5 : Hid (headQ fed s head ats = .stop o l5) := HQ4.out
                    have hl5 : l5 = l4 := by
                      unfold pointerP at hr5
                      split at hr5
                      · cases hr5
                      · cases hr5; rfl
                    subst hl5
                    have HPP : Hid (∀ W, Calls Tryz.prog 46 #[.int .u64 (x4 : Nat)] W fun e W' => e = .panicked [outV o] ∧ W' = W) := fun W => (hpt W).mono fun e w h => ⟨h.1.trans (endOf_stop _ _ _), h.2⟩
                    clear hr5 HQ4 hpt
                    gi_wp2
                    refine wpIn_wide.2 ?_
                    refine box_tail 5 (by kernel_rfl) (by kernel_rfl) ?_
                    simp only [List.take_succ_cons, List.take_zero, List.drop_succ_cons, List.drop_zero]
                    iterate 4
                      refine box_step (fun K hK => ?_)
                      go_simp
                      refine hK _ ?_
                      clear hK K
                    refine box_step (fun K hK => ?_)
                    go_simp
                    refine ⟨_, HAT.out _, hK _ ?_⟩
                    clear hK K
                    refine ⟨wpStill_nil ?_⟩
                    go_wp2_with (first | (go_at_call 28; refine HC.out.mono ?_; rintro e w4 ⟨rfl, h4, hb4⟩) | (go_at_call 46; refine (HPP.out _).mono ?_; rintro e w5 ⟨rfl, rfl⟩))
                    exact ⟨rfl, by rw [HQ5.out]; exact ⟨rfl, HGP.out _ _ (HGK.out _ _ _ _ HG3.out h4 ((RB.drew' R _ W3).trans hb4))⟩⟩
                  | val y5 l5 =>
                    obtain ⟨rfl, hy5, rfl⟩ := pointerP_val hr5
                    have HQ5 : Hid (headQ fed s head ats = chainQ fed s k y5 l5) := HQ4.out
                    have HPP : Hid (∀ W, Calls Tryz.prog 46 #[.int .u64 (y5 : Nat)] W fun e W' => e = .returned (.int .i64 (y5 : Nat)) ∧ W' = W) := hpt
                    clear hr5 HQ4 hpt
                    gi_wp2
                    refine wpIn_wide.2 ?_
                    refine box_tail 5 (by kernel_rfl) (by kernel_rfl) ?_
                    simp only [List.take_succ_cons, List.take_zero, List.drop_succ_cons, List.drop_zero]
                    iterate 4
                      refine box_step (fun K hK => ?_)
                      go_simp
                      refine hK _ ?_
                      clear hK K
                    refine box_step (fun K hK => ?_)
                    go_simp
                    refine ⟨_, HAT.out _, hK _ ?_⟩
                    clear hK K
                    refine ⟨wpStill_nil ?_⟩
                    go_wp2_with (first | (go_at_call 28; refine HC.out.mono ?_; rintro e w4 ⟨rfl, h4, hb4⟩) | (go_at_call 46; refine (HPP.out _).mono ?_; rintro e w5 ⟨rfl, rfl⟩))
                    have HG5 := Lib.hid (HGK.out _ _ _ _ HG3.out h4 ((RB.drew' R _ W3).trans hb4))
                    clear h4 hb4
                    gi_wp2
                    go_roundw
                    case rel => exact ⟨m + 1, y5, l5, by omega, rfl, rfl, hy5, hlen4, HG5.out, by rw [hk2]; exact HQ5.out⟩
                    case measure => simp [intOf]; omega
end Go.Proofs.YtdlblbhmeidhbaaGreatDoor
