import Derived.Test.YtdpooagnbmpinaaGreatDoorZJQ
import Derived.Test.YtdpooagnbmpinaaGreatDoorZK6
import Derived.Test.YtdpooagnbmpinaaGreatDoorTie
import Derived.Test.YtdpooagnbmpinaaGreatDoorCards
import Derived.SevenTiedAt
namespace Go.Proofs.YtdpooagnbmpinaaGreatDoor
section
open Go Go.RowKit Go.WideShapes Go.ChangeShapes Go.ChangeMaps
theorem Tryz.underlyingInt : Tryz.prog.underlying 3 = some (.int .i64) := by kernel_rfl
set_option maxRecDepth 100000 in
theorem lookLong_lifted (os : Os) (started : os.Started) (H : Type) (enc : TypeId × Value -> H) :
  ReturnsInHanded {} Tryz.checked os 3 .any (fun w args => (Rows.lookLongSpec.pre enc Tryz.prog Tryz.f3 [] false w args ∧ laidMetH Tryz.prog Rows.lookLongRow.laid w) ∧ sizedMet enc Tryz.prog Tryz.f3 (OpenSpec.ofChange Rows.lookLongSpec) false w args)
   (Rows.lookLongSpec.post enc Tryz.prog Tryz.f3 false true false false) := by
 refine returnsInHanded_of_change_and (C := Tryz.checked) (X := fun w _ => laidMetH Tryz.prog Rows.lookLongRow.laid w) (fun _ _ _ hh h => h.of_heap hh) Tryz.own started (by kernel_rfl) Tryz.func3
  (ChangeSpec.witness_shaped (enc := enc) (C := Tryz.checked) (os := os) (X := fun w _ => laidMetH Tryz.prog Rows.lookLongRow.laid w) false (World.laidAll Tryz.prog os Rows.lookLongRow.laid) #[.int .i64 0,.int .i64 0] 8 (World.laidAll_os _ _ _)
   (World.shaped_of_ZipB (by kernel_rfl) (by kernel_rfl)) (by kernel_rfl) (by kernel_rfl) (by kernel_rfl)
   (by rw [MakeChecks.laidMetH_plain _ _ _ (by kernel_rfl)];exact laidMet_laidAll _ (by kernel_rfl) (by kernel_rfl))) ?_
 intro W base args ds gs before hval0 hW _ hsz0 _ _
 have hval : ∀ (j : Nat) t v,Tryz.f3.params[j]? = some t -> args[j]? = some v -> Value.okWide Tryz.prog W .any base t v := hval0
 have hsz : (DataW.weightsEach Tryz.prog (Tryz.f3.params.toList ++ []) (ds ++ gs)).all (· <= reachBytes) = true := hsz0
 have hW' := hW
 obtain ⟨p,q,hA0,hV,rfl,_,_⟩ := hW
 have hA : DataW.TrodAll enc Tryz.prog W 0 (fun _ => true) true Tryz.f3.params.toList args.toList ds p := hA0
 rw [Tryz.params3] at hA hval hsz
 obtain ⟨rfl,rfl⟩ := trodVars_none hV
 obtain ⟨v0,v1,d0,d1,p0,p1,rfl,rfl,rfl,h0,h1⟩ := trodAll_two hA
 obtain ⟨s,rfl,rfl,rfl,hm0⟩ := open_int Tryz.underlyingInt (hval 0 _ v0 rfl rfl) h0
 obtain ⟨t,rfl,rfl,rfl,hm1⟩ := open_int Tryz.underlyingInt (hval 1 _ v1 rfl rfl) h1
 refine (lookLong_any s t W hm0 hm1).mono fun e W' ⟨he,hb⟩ => ?_
 subst he
 exact ⟨_,rfl,post_true hW' rfl rfl Tryz.underlyingBool rfl (fun sp _ => trodAll_mk2 (shut_int Tryz.underlyingInt hm0) (shut_int Tryz.underlyingInt hm1)) hb⟩
theorem lookLong_said : Rows.LookLongSaid :=
 OpenClaim.holds_of_wide 3 Tryz.f3 rfl rfl rfl rfl rfl rfl rfl ⟨rfl,rfl,rfl,rfl,rfl⟩ rfl rfl rfl rfl rfl (by kernel_rfl) Tryz.func3 (by kernel_rfl)
  (of_decide_eq_true (by kernel_rfl)) (by unfold Func.isWrapper;first | (rw [if_pos (by decide +kernel)];kernel_rfl) | (rw [if_neg (by decide +kernel)];exact ⟨rfl,rfl⟩))
  (fun os started H enc _ => lookLong_lifted os started H enc)
theorem lookLong_card : Rows.LookLongCardSaid :=
 Claim7.holds_tied_plain_at .later [] [.data,.pinned] true (true,"62ebae410489cad30c5930fd19d1265aac909cb8ae49d690f4ae670f717eaa1a") true lookLong_said (fun _ h => by cases h) (by kernel_rfl) (fun _ h => by cases h) lookLong_row_tie rfl ⟨rfl,rfl⟩ (by kernel_rfl) rfl
  (fun f fn hf hfn => by
   obtain rfl : f = 3 := Option.some.inj ((show Tryz.prog.funcNamed "waterline/waterlinelaw22.LookLong" = some 3 by kernel_rfl).symm.trans hf) |>.symm
   obtain rfl : fn = Tryz.f3 := (Option.some.inj (Tryz.func3.symm.trans hfn)).symm
   exact ⟨by kernel_rfl,fun j t ht => by
    rw [Tryz.params3] at ht
    have hm : t ∈ [3,3] := by simpa using Array.mem_of_getElem? ht
    have hall : ([3,3].all fun u => !Tryz.prog.wantsStandIn u) = true := by kernel_rfl
    exact (show Tryz.prog.wantsStandIn t = false by simpa using List.all_eq_true.1 hall t hm)⟩)
  (by kernel_rfl)
#print axioms lookLong_card
end
end Go.Proofs.YtdpooagnbmpinaaGreatDoor
