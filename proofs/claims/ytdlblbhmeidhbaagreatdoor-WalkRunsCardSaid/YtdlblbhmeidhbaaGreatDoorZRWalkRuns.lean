/- WalkRuns: the law returns true at every text, every list of words and every number, and all read as they did: the row, and the card that ties what it lists to the program's text. Conditions: the row's own. -/
import Derived.Test.YtdlblbhmeidhbaaGreatDoorZJ3
import Derived.Test.YtdlblbhmeidhbaaGreatDoorZKC
import Derived.Test.YtdlblbhmeidhbaaGreatDoorTie
import Derived.Test.YtdlblbhmeidhbaaGreatDoorCards
import Derived.SevenTiedAt
namespace Go.Proofs.YtdlblbhmeidhbaaGreatDoor
open Go Go.RowKit Go.WideShapes Go.ChangeShapes Go.ChangeMaps

theorem Tryz.underlyingInt : Tryz.prog.underlying 3 = some (.int .i64) := by kernel_rfl
set_option maxRecDepth 100000 in
theorem walkRuns_lifted (os : Os) (started : os.Started) (H : Type) (enc : TypeId × Value → H) :
    ReturnsInHanded {} Tryz.checked os 4 .any (fun w args => (Rows.walkRunsSpec.pre enc Tryz.prog Tryz.f4 [] false w args ∧ laidMetH Tryz.prog Rows.walkRunsRow.laid w) ∧ sizedMet enc Tryz.prog Tryz.f4 (OpenSpec.ofChange Rows.walkRunsSpec) false w args)
      (Rows.walkRunsSpec.post enc Tryz.prog Tryz.f4 false true false false) := by
  refine returnsInHanded_of_change_and (C := Tryz.checked) (X := fun w _ => laidMetH Tryz.prog Rows.walkRunsRow.laid w) (fun _ _ _ hh h => h.of_heap hh) Tryz.own started (by kernel_rfl) Tryz.func4
    (ChangeSpec.witness_shaped (enc := enc) (C := Tryz.checked) (os := os) (X := fun w _ => laidMetH Tryz.prog Rows.walkRunsRow.laid w) false (World.laidAll Tryz.prog os Rows.walkRunsRow.laid) #[.string ⟨#[]⟩, .slice none 0 0, .int .i64 0] 8 (World.laidAll_os _ _ _)
      (World.shaped_of_ZipB (by kernel_rfl) (by kernel_rfl)) (by kernel_rfl) (by kernel_rfl) (by kernel_rfl)
      (by rw [MakeChecks.laidMetH_plain _ _ _ (by kernel_rfl)]; exact laidMet_laidAll _ (by kernel_rfl) (by kernel_rfl))) ?_
  intro W base args ds gs before hval0 hW _ hsz0 _ _
  have hval : ∀ (j : Nat) t v, Tryz.f4.params[j]? = some t → args[j]? = some v → Value.okWide Tryz.prog W .any base t v := hval0
  have hsz : (DataW.weightsEach Tryz.prog (Tryz.f4.params.toList ++ []) (ds ++ gs)).all (· ≤ reachBytes) = true := hsz0
  have hW' := hW
  obtain ⟨p, q, hA0, hV, rfl, _, _⟩ := hW
  have hA : DataW.TrodAll enc Tryz.prog W 0 (fun _ => true) true Tryz.f4.params.toList args.toList ds p := hA0
  rw [Tryz.params4] at hA hval hsz
  obtain ⟨rfl, rfl⟩ := trodVars_none hV
  obtain ⟨v0, v1, v2, d0, d1, d2, p0, p1, p2, rfl, rfl, rfl, h0, h1, h2⟩ := trodAll_three hA
  simp only [List.append_nil] at hW'
  obtain ⟨s, rfl, rfl, rfl, hm0⟩ := open_string Tryz.underlyingString (hval 0 _ v0 rfl rfl) h0
  have hz0 := size_reach (sized_string hsz (j := 0) rfl rfl)
  have hlt1 : ∀ x ∈ p1, x.block < W.heap.size := fun x hx => hW'.lt x (by simp [hx])
  have hval1 := hval 1 _ v1 rfl rfl
  obtain ⟨A1, n1, c1, xs1, rfl, hn1, hnc1, hc1, hs1, hr1⟩ := open_words hval1 h1 hlt1
  obtain ⟨u, rfl, rfl, rfl, hm2⟩ := open_int Tryz.underlyingInt (hval 2 _ v2 rfl rfl) h2
  refine (lruns_any s xs1 A1 n1 c1 u W hz0 hn1 hnc1 hc1 hs1 hr1 hm2).mono fun e W' ⟨he, hb⟩ => ?_
  subst he
  exact ⟨_, rfl, post_true hW' rfl rfl Tryz.underlyingBool rfl (fun sp hsp => by rw [List.append_assoc]; exact trodAll_mk3 (shut_string Tryz.underlyingString hm0) (WideElems.Trod_stays Tryz.laidOut (by kernel_rfl) (of_decide_eq_true (by kernel_rfl)) h1 (fun x hx => hb.same (hlt1 x hx)) (fun x hx => hsp x (by simp [hx]))) (shut_int Tryz.underlyingInt hm2)) hb⟩

theorem walkRuns_said : Rows.WalkRunsSaid :=
  OpenClaim.holds_of_wide 4 Tryz.f4 rfl rfl rfl rfl rfl rfl rfl ⟨rfl, rfl, rfl, rfl, rfl⟩ rfl rfl rfl rfl rfl (by kernel_rfl) Tryz.func4 (by kernel_rfl)
    (of_decide_eq_true (by kernel_rfl)) (by unfold Func.isWrapper; first | (rw [if_pos (by decide +kernel)]; kernel_rfl) | (rw [if_neg (by decide +kernel)]; exact ⟨rfl, rfl⟩))
    (fun os started H enc _ => walkRuns_lifted os started H enc)
theorem walkRuns_card : Rows.WalkRunsCardSaid :=
  Claim7.holds_tied_plain_at .later [] [.data, .pinned] true (true, "1d767eda831c63345a2717b108077ab24ba928c4e702921ee2d70301459c0708") true walkRuns_said (fun _ h => by cases h) (by kernel_rfl) (fun _ h => by cases h) walkRuns_row_tie rfl ⟨rfl, rfl⟩ (by kernel_rfl) rfl
    (fun f fn hf hfn => by
      obtain rfl : f = 4 := Option.some.inj ((show Tryz.prog.funcNamed "waterline/waterlinelaw21.WalkRuns" = some 4 by kernel_rfl).symm.trans hf) |>.symm
      obtain rfl : fn = Tryz.f4 := (Option.some.inj (Tryz.func4.symm.trans hfn)).symm
      exact ⟨by kernel_rfl, fun j t ht => by
        rw [Tryz.params4] at ht
        have hm : t ∈ [9, 24, 3] := by simpa using Array.mem_of_getElem? ht
        have hall : ([9, 24, 3].all fun u => !Tryz.prog.wantsStandIn u) = true := by kernel_rfl
        exact (show Tryz.prog.wantsStandIn t = false by simpa using List.all_eq_true.1 hall t hm)⟩)
    (by kernel_rfl)
#print axioms walkRuns_card
end Go.Proofs.YtdlblbhmeidhbaaGreatDoor
