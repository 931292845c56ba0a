/- ModelEquals: the law returns true at every two results, and all read as they did: the row, and the card that ties what it lists to the program's text. Conditions: the row's own. -/
import Derived.Test.YtibpagmpdgflmaaGreatDoorZX1
import Derived.Test.YtibpagmpdgflmaaGreatDoorZKE
import Derived.Test.YtibpagmpdgflmaaGreatDoorTie
import Derived.Test.YtibpagmpdgflmaaGreatDoorCards
import Derived.SevenTiedAt
namespace Go.Proofs.YtibpagmpdgflmaaGreatDoor
open Go Go.RowKit Go.WideShapes Go.ChangeShapes Go.ChangeMaps

set_option maxRecDepth 100000 in
theorem modelEquals_lifted (os : Os) (started : os.Started) (H : Type) (enc : TypeId × Value → H) :
    ReturnsInHanded {} Tryz.checked os 3 .any (fun w args => (Rows.modelEqualsSpec.pre enc Tryz.prog Tryz.f3 [] false w args ∧ laidMetH Tryz.prog Rows.modelEqualsRow.laid w) ∧ sizedMet enc Tryz.prog Tryz.f3 (OpenSpec.ofChange Rows.modelEqualsSpec) false w args)
      (Rows.modelEqualsSpec.post enc Tryz.prog Tryz.f3 false true false false) := by
  refine returnsInHanded_of_change_and (C := Tryz.checked) (X := fun w _ => laidMetH Tryz.prog Rows.modelEqualsRow.laid w) (fun _ _ _ hh h => h.of_heap hh) Tryz.own started (by kernel_rfl) Tryz.func3
    (ChangeSpec.witness_shaped (enc := enc) (C := Tryz.checked) (os := os) (X := fun w _ => laidMetH Tryz.prog Rows.modelEqualsRow.laid w) false (World.laidAll Tryz.prog os Rows.modelEqualsRow.laid) #[.agg #[.int .i64 0, .int .i64 0, .int .i64 0, .int .i64 0, .slice none 0 0, .slice none 0 0], .agg #[.int .i64 0, .int .i64 0, .int .i64 0, .int .i64 0, .slice none 0 0, .slice none 0 0]] 8 (World.laidAll_os _ _ _)
      (World.shaped_of_ZipB (by kernel_rfl) (by kernel_rfl)) (by kernel_rfl) (by kernel_rfl) (by kernel_rfl)
      (by rw [MakeChecks.laidMetH_plain _ _ _ (by kernel_rfl)]; exact laidMet_laidAll _ (by kernel_rfl) (by kernel_rfl))) ?_
  intro W base args ds gs before hval0 hW _ hsz0 _ _
  have hval : ∀ (j : Nat) t v, Tryz.f3.params[j]? = some t → args[j]? = some v → Value.okWide Tryz.prog W .any base t v := hval0
  have hsz : (DataW.weightsEach Tryz.prog (Tryz.f3.params.toList ++ []) (ds ++ gs)).all (· ≤ reachBytes) = true := hsz0
  have hW' := hW
  obtain ⟨p, q, hA0, hV, rfl, _, _⟩ := hW
  have hA : DataW.TrodAll enc Tryz.prog W 0 (fun _ => true) true Tryz.f3.params.toList args.toList ds p := hA0
  rw [Tryz.params3] at hA hval hsz
  obtain ⟨rfl, rfl⟩ := trodVars_none hV
  obtain ⟨v0, v1, d0, d1, p0, p1, rfl, rfl, rfl, h0, h1⟩ := trodAll_two hA
  simp only [List.append_nil] at hW'
  have hlt0 : ∀ x ∈ p0, x.block < W.heap.size := fun x hx => hW'.lt x (by simp [hx])
  have hval0 := hval 0 _ v0 rfl rfl
  obtain ⟨a0, b0, c0, e0, N0, n0, k0, xs0, A0, m0, l0, bs0, rfl, ⟨hx0, hxk0, hk0, _, hxr0⟩, hb0, hbl0, hl0, hr0⟩ := open_res hval0 h0 hlt0
  have hlt1 : ∀ x ∈ p1, x.block < W.heap.size := fun x hx => hW'.lt x (by simp [hx])
  have hval1 := hval 1 _ v1 rfl rfl
  obtain ⟨a1, b1, c1, e1, N1, n1, k1, xs1, A1, m1, l1, bs1, rfl, ⟨hx1, hxk1, hk1, _, hxr1⟩, hb1, hbl1, hl1, hr1⟩ := open_res hval1 h1 hlt1
  refine (modelEquals_any a0 b0 c0 e0 N0 n0 k0 xs0 A0 m0 l0 bs0 a1 b1 c1 e1 N1 n1 k1 xs1 A1 m1 l1 bs1 W hx0 hxk0 hk0 hxr0 hb0 hbl0 hl0 hr0 hx1 hxk1 hk1 hxr1 hb1 hbl1 hl1 hr1).mono fun e W' ⟨he, hb⟩ => ?_
  subst he
  exact ⟨_, rfl, post_true hW' rfl rfl Tryz.underlyingBool rfl (fun sp hsp => trodAll_mk2 (WideElems.Trod_stays Tryz.laidOut (by kernel_rfl) (of_decide_eq_true (by kernel_rfl)) h0 (fun x hx => hb.same (hlt0 x hx)) (fun x hx => hsp x (by simp [hx]))) (WideElems.Trod_stays Tryz.laidOut (by kernel_rfl) (of_decide_eq_true (by kernel_rfl)) h1 (fun x hx => hb.same (hlt1 x hx)) (fun x hx => hsp x (by simp [hx])))) hb⟩

theorem modelEquals_said : Rows.ModelEqualsSaid :=
  OpenClaim.holds_of_wide 3 Tryz.f3 rfl rfl rfl rfl rfl rfl rfl ⟨rfl, rfl, rfl, rfl, rfl⟩ rfl rfl rfl rfl rfl (by kernel_rfl) Tryz.func3 (by kernel_rfl)
    (of_decide_eq_true (by kernel_rfl)) (by unfold Func.isWrapper; first | (rw [if_pos (by decide +kernel)]; kernel_rfl) | (rw [if_neg (by decide +kernel)]; exact ⟨rfl, rfl⟩))
    (fun os started H enc _ => modelEquals_lifted os started H enc)
theorem modelEquals_card : Rows.ModelEqualsCardSaid :=
  Claim7.holds_tied_plain_at .later [] [.data, .pinned] true (true, "8d701f485b2ea332f148a85d1ce063bb378af66af19344e1bebca3f68deee00a") true modelEquals_said (fun _ h => by cases h) (by kernel_rfl) (fun _ h => by cases h) modelEquals_row_tie rfl ⟨rfl, rfl⟩ (by kernel_rfl) rfl
    (fun f fn hf hfn => by
      obtain rfl : f = 3 := Option.some.inj ((show Tryz.prog.funcNamed "waterline/waterlinelaw11.ModelEquals" = some 3 by kernel_rfl).symm.trans hf) |>.symm
      obtain rfl : fn = Tryz.f3 := (Option.some.inj (Tryz.func3.symm.trans hfn)).symm
      exact ⟨by kernel_rfl, fun j t ht => by
        rw [Tryz.params3] at ht
        have hm : t ∈ [27, 27] := by simpa using Array.mem_of_getElem? ht
        have hall : ([27, 27].all fun u => !Tryz.prog.wantsStandIn u) = true := by kernel_rfl
        exact (show Tryz.prog.wantsStandIn t = false by simpa using List.all_eq_true.1 hall t hm)⟩)
    (by kernel_rfl)
#print axioms modelEquals_card
end Go.Proofs.YtibpagmpdgflmaaGreatDoor
