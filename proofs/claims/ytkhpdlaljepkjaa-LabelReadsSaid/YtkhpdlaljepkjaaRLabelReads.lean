/- LabelReads: the law returns true at whatever words, number and text, and all read as they did: the row. Conditions: the row's own. -/
import Derived.Test.YtkhpdlaljepkjaaN4
import Derived.Test.YtkhpdlaljepkjaaK6
import Derived.Test.YtkhpdlaljepkjaaK8
namespace Go.Proofs.Ytkhpdlaljepkjaa
open Go Go.RowKit Go.WideShapes Go.ChangeShapes Go.ChangeMaps

theorem Try.underlyingInt : Try.prog.underlying 3 = some (.int .i64) := by kernel_rfl
set_option maxRecDepth 100000 in
theorem labelReads_lifted (os : Os) (started : os.Started) (H : Type) (enc : TypeId × Value → H) :
    ReturnsInHanded {} Try.checked os 5 .any (Rows.labelReadsSpec.pre6 enc Try.prog Try.f5 Rows.labelReadsRow.domain false) (Rows.labelReadsSpec.post enc Try.prog Try.f5 false true false false) := by
  refine returnsInHanded_of_change (C := Try.checked) Try.own started (by kernel_rfl) Try.func5
    (ChangeSpec.witness6 (enc := enc) (C := Try.checked) false ⟨#[], #[.agg #[.int .u64 0, .int .u64 0, .int .u64 0, .int .u64 0, .int .u64 0], .int .i64 0, .string ⟨#[]⟩], []⟩ 8 (by kernel_rfl) (by kernel_rfl) (by kernel_rfl) (by kernel_rfl)) ?_
  intro W base args ds gs before hval0 hW _ _
  have hval : ∀ (j : Nat) t v, Try.f5.params[j]? = some t → args[j]? = some v → Value.okWide Try.prog W .any base t v := hval0
  have hW' := hW
  obtain ⟨p, q, hA0, hV, rfl, _, _⟩ := hW
  have hA : DataW.TrodAll enc Try.prog W 0 (fun _ => true) true Try.f5.params.toList args.toList ds p := hA0
  rw [Try.params5] at hA hval
  obtain ⟨rfl, rfl⟩ := trodVars_none hV
  obtain ⟨v0, v1, v2, d0, d1, d2, p0, p1, p2, rfl, rfl, rfl, h0, h1, h2⟩ := trodAll_three hA
  simp only [List.append_nil] at hW'
  have hlt0 : ∀ x ∈ p0, x.block < W.heap.size := fun x hx => hW'.lt x (by simp [hx])
  obtain ⟨f0, rfl, hf0⟩ := open_five (hval 0 _ v0 rfl rfl)
  obtain ⟨t, rfl, rfl, rfl, hm1⟩ := open_int Try.underlyingInt (hval 1 _ v1 rfl rfl) h1
  obtain ⟨u, rfl, rfl, rfl, hm2⟩ := open_string Try.underlyingString (hval 2 _ v2 rfl rfl) h2
  refine (labelReads_any f0 t u W hf0 hm1 hm2).mono fun e W' ⟨he, hb⟩ => ?_
  subst he
  exact ⟨_, rfl, post_true hW' rfl rfl Try.underlyingBool rfl (fun sp hsp => by rw [List.append_assoc]; exact trodAll_mk3 (WideElems.Trod_stays Try.laidOut (by kernel_rfl) (of_decide_eq_true (by kernel_rfl)) h0 (fun x hx => hb.same (hlt0 x hx)) (fun x hx => hsp x (by simp [hx]))) (shut_int Try.underlyingInt hm1) (shut_string Try.underlyingString hm2)) hb⟩

theorem labelReads_said : Rows.LabelReadsSaid :=
  OpenClaim.holds_of_wide 5 Try.f5 rfl rfl rfl rfl rfl rfl rfl ⟨rfl, rfl, rfl, rfl, rfl⟩ rfl rfl rfl rfl rfl (by kernel_rfl) Try.func5 (by kernel_rfl)
    (of_decide_eq_true (by kernel_rfl)) (by unfold Func.isWrapper; first | (rw [if_pos (by decide +kernel)]; kernel_rfl) | (rw [if_neg (by decide +kernel)]; exact ⟨rfl, rfl⟩))
    (fun os started H enc _ => labelReads_lifted os started H enc)
#print axioms labelReads_said
end Go.Proofs.Ytkhpdlaljepkjaa
