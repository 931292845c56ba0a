/- PathHolds: the law returns true at every three texts, and all read as they did: the row, and the card that ties what it lists to the program's text. Conditions: the row's own. -/
import Derived.Test.YtkhpdlaljepkjaaDoorL4
import Derived.Test.YtkhpdlaljepkjaaDoorK4
import Derived.Test.YtkhpdlaljepkjaaDoorTie
import Derived.Test.YtkhpdlaljepkjaaDoorCards
import Derived.SevenTiedAt
namespace Go.Proofs.YtkhpdlaljepkjaaDoor
open Go Go.RowKit Go.WideShapes Go.ChangeShapes Go.ChangeMaps

set_option maxRecDepth 100000 in
theorem holds_lifted (os : Os) (started : os.Started) (H : Type) (enc : TypeId × Value → H) :
    ReturnsInHanded {} Tryd.checked os 8 .any (fun w args => (Rows.pathHoldsSpec.pre enc Tryd.prog Tryd.f8 [] false w args ∧ laidMetH Tryd.prog Rows.pathHoldsRow.laid w) ∧ sizedMet enc Tryd.prog Tryd.f8 (OpenSpec.ofChange Rows.pathHoldsSpec) false w args)
      (Rows.pathHoldsSpec.post enc Tryd.prog Tryd.f8 false true false false) := by
  refine returnsInHanded_of_change_and (C := Tryd.checked) (X := fun w _ => laidMetH Tryd.prog Rows.pathHoldsRow.laid w) (fun _ _ _ hh h => h.of_heap hh) Tryd.own started (by kernel_rfl) Tryd.func8
    (ChangeSpec.witness_shaped (enc := enc) (C := Tryd.checked) (os := os) (X := fun w _ => laidMetH Tryd.prog Rows.pathHoldsRow.laid w) false (World.laidAll Tryd.prog os Rows.pathHoldsRow.laid) #[.string ⟨#[]⟩, .string ⟨#[]⟩, .string ⟨#[]⟩] 8 (World.laidAll_os _ _ _)
      (World.shaped_of_ZipB (by kernel_rfl) (by kernel_rfl)) (by kernel_rfl) (by kernel_rfl) (by kernel_rfl)
      (by rw [MakeChecks.laidMetH_plain _ _ _ (by kernel_rfl)]; exact laidMet_laidAll _ (by kernel_rfl) (by kernel_rfl))) ?_
  intro W base args ds gs before hval0 hW _ hsz0 _ _
  have hval : ∀ (j : Nat) t v, Tryd.f8.params[j]? = some t → args[j]? = some v → Value.okWide Tryd.prog W .any base t v := hval0
  have hsz : (DataW.weightsEach Tryd.prog (Tryd.f8.params.toList ++ []) (ds ++ gs)).all (· ≤ reachBytes) = true := hsz0
  have hW' := hW
  obtain ⟨p, q, hA0, hV, rfl, _, _⟩ := hW
  have hA : DataW.TrodAll enc Tryd.prog W 0 (fun _ => true) true Tryd.f8.params.toList args.toList ds p := hA0
  rw [Tryd.params8] at hA hval hsz
  obtain ⟨rfl, rfl⟩ := trodVars_none hV
  obtain ⟨v0, v1, v2, d0, d1, d2, p0, p1, p2, rfl, rfl, rfl, h0, h1, h2⟩ := trodAll_three hA
  obtain ⟨s, rfl, rfl, rfl, hm0⟩ := open_string Tryd.underlyingString (hval 0 _ v0 rfl rfl) h0
  have hz0 := size_reach (sized_string hsz (j := 0) rfl rfl)
  obtain ⟨t, rfl, rfl, rfl, hm1⟩ := open_string Tryd.underlyingString (hval 1 _ v1 rfl rfl) h1
  have hz1 := size_reach (sized_string hsz (j := 1) rfl rfl)
  obtain ⟨u, rfl, rfl, rfl, hm2⟩ := open_string Tryd.underlyingString (hval 2 _ v2 rfl rfl) h2
  have hz2 := size_reach (sized_string hsz (j := 2) rfl rfl)
  refine (law_holds s t u W hz0 hz1 hz2).mono fun e W' ⟨he, hb⟩ => ?_
  subst he
  exact ⟨_, rfl, post_true hW' rfl rfl Tryd.underlyingBool rfl (fun sp _ => trodAll_mk3 (shut_string Tryd.underlyingString hm0) (shut_string Tryd.underlyingString hm1) (shut_string Tryd.underlyingString hm2)) hb⟩

theorem holds_said : Rows.PathHoldsSaid :=
  OpenClaim.holds_of_wide 8 Tryd.f8 rfl rfl rfl rfl rfl rfl rfl ⟨rfl, rfl, rfl, rfl, rfl⟩ rfl rfl rfl rfl rfl (by kernel_rfl) Tryd.func8 (by kernel_rfl)
    (of_decide_eq_true (by kernel_rfl)) (by unfold Func.isWrapper; first | (rw [if_pos (by decide +kernel)]; kernel_rfl) | (rw [if_neg (by decide +kernel)]; exact ⟨rfl, rfl⟩))
    (fun os started H enc _ => holds_lifted os started H enc)
theorem holds_card : Rows.PathHoldsCardSaid :=
  Claim7.holds_tied_plain_at .later [] [.data, .pinned] true (true, "5b126b2f92a655f202c728a046d2f843dd8c2f88d0448c3afea6d3837c3ce1fa") false holds_said (fun _ h => by cases h) (by kernel_rfl) (fun _ h => by cases h) pathHolds_row_tie rfl ⟨rfl, rfl⟩ (by kernel_rfl) rfl
    (fun f fn hf hfn => by
      obtain rfl : f = 8 := Option.some.inj ((show Tryd.prog.funcNamed "waterline/waterlinelaw07.PathHolds" = some 8 by kernel_rfl).symm.trans hf) |>.symm
      obtain rfl : fn = Tryd.f8 := (Option.some.inj (Tryd.func8.symm.trans hfn)).symm
      exact ⟨by kernel_rfl, fun j t ht => by
        rw [Tryd.params8] at ht
        have hm : t ∈ [9, 9, 9] := by simpa using Array.mem_of_getElem? ht
        have hall : ([9, 9, 9].all fun u => !Tryd.prog.wantsStandIn u) = true := by kernel_rfl
        exact (show Tryd.prog.wantsStandIn t = false by simpa using List.all_eq_true.1 hall t hm)⟩)
    (by kernel_rfl)
#print axioms holds_card
end Go.Proofs.YtkhpdlaljepkjaaDoor
