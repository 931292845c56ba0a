/- LabelBytes: the law returns true at every text, place and byte, and all read as they did: the row. Conditions: the row's own. -/
import Derived.Test.YtkhpdlaljepkjaaN3
import Derived.Test.YtkhpdlaljepkjaaK6
namespace Go.Proofs.Ytkhpdlaljepkjaa
open Go Go.RowKit Go.WideShapes Go.ChangeShapes Go.ChangeMaps

theorem Try.underlyingInt : Try.prog.underlying 3 = some (.int .i64) := by kernel_rfl
set_option maxRecDepth 100000 in
theorem labelBytes_lifted (os : Os) (started : os.Started) (H : Type) (enc : TypeId × Value → H) :
    ReturnsInHanded {} Try.checked os 7 .any (Rows.labelBytesSpec.pre6 enc Try.prog Try.f7 Rows.labelBytesRow.domain false) (Rows.labelBytesSpec.post enc Try.prog Try.f7 false true false false) := by
  refine returnsInHanded_of_change (C := Try.checked) Try.own started (by kernel_rfl) Try.func7
    (ChangeSpec.witness6 (enc := enc) (C := Try.checked) false ⟨#[], #[.string ⟨#[]⟩, .int .i64 0, .int .u8 0], []⟩ 8 (by kernel_rfl) (by kernel_rfl) (by kernel_rfl) (by kernel_rfl)) ?_
  intro W base args ds gs before hval0 hW _ _
  have hval : ∀ (j : Nat) t v, Try.f7.params[j]? = some t → args[j]? = some v → Value.okWide Try.prog W .any base t v := hval0
  have hW' := hW
  obtain ⟨p, q, hA0, hV, rfl, _, _⟩ := hW
  have hA : DataW.TrodAll enc Try.prog W 0 (fun _ => true) true Try.f7.params.toList args.toList ds p := hA0
  rw [Try.params7] at hA hval
  obtain ⟨rfl, rfl⟩ := trodVars_none hV
  obtain ⟨v0, v1, v2, d0, d1, d2, p0, p1, p2, rfl, rfl, rfl, h0, h1, h2⟩ := trodAll_three hA
  obtain ⟨s, rfl, rfl, rfl, hm0⟩ := open_string Try.underlyingString (hval 0 _ v0 rfl rfl) h0
  obtain ⟨t, rfl, rfl, rfl, hm1⟩ := open_int Try.underlyingInt (hval 1 _ v1 rfl rfl) h1
  obtain ⟨u, rfl, rfl, rfl, hm2⟩ := open_int Try.underlyingByte (hval 2 _ v2 rfl rfl) h2
  refine (labelBytes_any s t u W hm0 hm1 hm2).mono fun e W' ⟨he, hb⟩ => ?_
  subst he
  exact ⟨_, rfl, post_true hW' rfl rfl Try.underlyingBool rfl (fun sp _ => trodAll_mk3 (shut_string Try.underlyingString hm0) (shut_int Try.underlyingInt hm1) (shut_int Try.underlyingByte hm2)) hb⟩

theorem labelBytes_said : Rows.LabelBytesSaid :=
  OpenClaim.holds_of_wide 7 Try.f7 rfl rfl rfl rfl rfl rfl rfl ⟨rfl, rfl, rfl, rfl, rfl⟩ rfl rfl rfl rfl rfl (by kernel_rfl) Try.func7 (by kernel_rfl)
    (of_decide_eq_true (by kernel_rfl)) (by unfold Func.isWrapper; first | (rw [if_pos (by decide +kernel)]; kernel_rfl) | (rw [if_neg (by decide +kernel)]; exact ⟨rfl, rfl⟩))
    (fun os started H enc _ => labelBytes_lifted os started H enc)
#print axioms labelBytes_said
end Go.Proofs.Ytkhpdlaljepkjaa
