/- LabelSorts: the law returns true at every list of texts, and it reads as it did: the row. Conditions: the row's own. -/
import Derived.Test.YtgkmcooahjoagaaN7
import Derived.Test.YtgkmcooahjoagaaK6
namespace Go.Proofs.Ytgkmcooahjoagaa
open Go Go.RowKit Go.WideShapes Go.ChangeShapes Go.ChangeMaps

set_option maxRecDepth 100000 in
theorem labelSorts_lifted (os : Os) (started : os.Started) (H : Type) (enc : TypeId × Value → H) :
    ReturnsInHanded {} Try.checked os 3 .any (Rows.labelSortsSpec.pre6 enc Try.prog Try.f3 Rows.labelSortsRow.domain false) (Rows.labelSortsSpec.post enc Try.prog Try.f3 false true false false) := by
  refine returnsInHanded_of_change (C := Try.checked) Try.own started (by kernel_rfl) Try.func3
    (ChangeSpec.witness6 (enc := enc) (C := Try.checked) false ⟨#[], #[.slice none 0 0], []⟩ 8 (by kernel_rfl) (by kernel_rfl) (by kernel_rfl) (by kernel_rfl)) ?_
  intro W base args ds gs before hval0 hW _ _
  have hval : ∀ (j : Nat) t v, Try.f3.params[j]? = some t → args[j]? = some v → Value.okWide Try.prog W .any base t v := hval0
  have hW' := hW
  obtain ⟨p, q, hA0, hV, rfl, _, _⟩ := hW
  have hA : DataW.TrodAll enc Try.prog W 0 (fun _ => true) true Try.f3.params.toList args.toList ds p := hA0
  rw [Try.params3] at hA hval
  obtain ⟨rfl, rfl⟩ := trodVars_none hV
  obtain ⟨v0, d0, rfl, rfl, h0⟩ := trodAll_one hA
  simp only [List.append_nil] at hW'
  have hlt0 : ∀ x ∈ p, x.block < W.heap.size := fun x hx => hW'.lt x (by simp [hx])
  have hval0 := hval 0 _ v0 rfl rfl
  obtain ⟨A0, n0, c0, xs0, rfl, hn0, hnc0, hc0, hs0, hr0⟩ := open_list hval0 h0 hlt0
  refine (labelSorts_any xs0 A0 n0 c0 W hn0 hnc0 hc0 hs0 hr0).mono fun e W' ⟨he, hb⟩ => ?_
  subst he
  exact ⟨_, rfl, post_true hW' rfl rfl Try.underlyingBool rfl (fun sp hsp => trodAll_mk1 (WideElems.Trod_stays Try.laidOut (by kernel_rfl) (of_decide_eq_true (by kernel_rfl)) h0 (fun x hx => hb.same (hlt0 x hx)) (fun x hx => hsp x (by simp [hx])))) hb⟩

theorem labelSorts_said : Rows.LabelSortsSaid :=
  OpenClaim.holds_of_wide 3 Try.f3 rfl rfl rfl rfl rfl rfl rfl ⟨rfl, rfl, rfl, rfl, rfl⟩ rfl rfl rfl rfl rfl (by kernel_rfl) Try.func3 (by kernel_rfl)
    (of_decide_eq_true (by kernel_rfl)) (by unfold Func.isWrapper; first | (rw [if_pos (by decide +kernel)]; kernel_rfl) | (rw [if_neg (by decide +kernel)]; exact ⟨rfl, rfl⟩))
    (fun os started H enc _ => labelSorts_lifted os started H enc)
#print axioms labelSorts_said
end Go.Proofs.Ytgkmcooahjoagaa
