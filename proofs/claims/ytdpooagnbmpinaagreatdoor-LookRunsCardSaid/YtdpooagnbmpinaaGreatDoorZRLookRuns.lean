import Derived.Test.YtdpooagnbmpinaaGreatDoorZJP
import Derived.Test.YtdpooagnbmpinaaGreatDoorZKD
import Derived.Test.YtdpooagnbmpinaaGreatDoorTie
import Derived.Test.YtdpooagnbmpinaaGreatDoorCards
import Derived.SevenTiedAt
namespace Go.Proofs.YtdpooagnbmpinaaGreatDoor
section
open Go Go.RowKit Go.WideShapes Go.ChangeShapes Go.ChangeMaps
set_option maxRecDepth 100000 in
theorem lookRuns_lifted (os : Os) (started : os.Started) (H : Type) (enc : TypeId × Value -> H) :
  ReturnsInHanded {} Tryz.checked os 6 .any (fun w args => (Rows.lookRunsSpec.pre enc Tryz.prog Tryz.f6 [] false w args ∧ laidMetH Tryz.prog Rows.lookRunsRow.laid w) ∧ sizedMet enc Tryz.prog Tryz.f6 (OpenSpec.ofChange Rows.lookRunsSpec) false w args)
   (Rows.lookRunsSpec.post enc Tryz.prog Tryz.f6 false true false false) := by
 refine returnsInHanded_of_change_and (C := Tryz.checked) (X := fun w _ => laidMetH Tryz.prog Rows.lookRunsRow.laid w) (fun _ _ _ hh h => h.of_heap hh) Tryz.own started (by kernel_rfl) Tryz.func6
  (ChangeSpec.witness_shaped (enc := enc) (C := Tryz.checked) (os := os) (X := fun w _ => laidMetH Tryz.prog Rows.lookRunsRow.laid w) false (World.laidAll Tryz.prog os Rows.lookRunsRow.laid) #[.agg #[.int .i64 0,.string ⟨#[]⟩,.string ⟨#[]⟩,.int .i64 0,.int .i64 0,.slice none 0 0],.slice none 0 0] 8 (World.laidAll_os _ _ _)
   (World.shaped_of_ZipB (by kernel_rfl) (by kernel_rfl)) (by kernel_rfl) (by kernel_rfl) (by kernel_rfl)
   (by rw [MakeChecks.laidMetH_plain _ _ _ (by kernel_rfl)];exact laidMet_laidAll _ (by kernel_rfl) (by kernel_rfl))) ?_
 intro W base args ds gs before hval0 hW _ hsz0 _ _
 have hval : ∀ (j : Nat) t v,Tryz.f6.params[j]? = some t -> args[j]? = some v -> Value.okWide Tryz.prog W .any base t v := hval0
 have hsz : (DataW.weightsEach Tryz.prog (Tryz.f6.params.toList ++ []) (ds ++ gs)).all (· <= reachBytes) = true := hsz0
 have hW' := hW
 obtain ⟨p,q,hA0,hV,rfl,_,_⟩ := hW
 have hA : DataW.TrodAll enc Tryz.prog W 0 (fun _ => true) true Tryz.f6.params.toList args.toList ds p := hA0
 rw [Tryz.params6] at hA hval hsz
 obtain ⟨rfl,rfl⟩ := trodVars_none hV
 obtain ⟨v0,v1,d0,d1,p0,p1,rfl,rfl,rfl,h0,h1⟩ := trodAll_two hA
 simp only [List.append_nil] at hW'
 have hlt0 : ∀ x ∈ p0,x.block < W.heap.size := fun x hx => hW'.lt x (by simp [hx])
 have hval0 := hval 0 _ v0 rfl rfl
 obtain ⟨k0,sa0,sb0,a0,b0,A0,n0,c0,bs0,rfl,hk0,ha0,hb0,hn0,hnc0,hc0,hr0⟩ := open_op hval0 h0 hlt0
 have hlt1 : ∀ x ∈ p1,x.block < W.heap.size := fun x hx => hW'.lt x (by simp [hx])
 have hval1 := hval 1 _ v1 rfl rfl
 obtain ⟨A1,n1,c1,xs1,rfl,hn1,hnc1,hc1,hs1,hr1⟩ := open_words hval1 h1 hlt1
 refine (lookRuns_any k0 sa0 sb0 a0 b0 A0 n0 c0 bs0 xs1 A1 n1 c1 W hk0 ha0 hb0 hn0 hnc0 hc0 hr0 hn1 hnc1 hc1 hs1 hr1).mono fun e W' ⟨he,hb⟩ => ?_
 subst he
 exact ⟨_,rfl,post_true hW' rfl rfl Tryz.underlyingBool rfl (fun sp hsp => trodAll_mk2 (WideElems.Trod_stays Tryz.laidOut (by kernel_rfl) (of_decide_eq_true (by kernel_rfl)) h0 (fun x hx => hb.same (hlt0 x hx)) (fun x hx => hsp x (by simp [hx]))) (WideElems.Trod_stays Tryz.laidOut (by kernel_rfl) (of_decide_eq_true (by kernel_rfl)) h1 (fun x hx => hb.same (hlt1 x hx)) (fun x hx => hsp x (by simp [hx])))) hb⟩
theorem lookRuns_said : Rows.LookRunsSaid :=
 OpenClaim.holds_of_wide 6 Tryz.f6 rfl rfl rfl rfl rfl rfl rfl ⟨rfl,rfl,rfl,rfl,rfl⟩ rfl rfl rfl rfl rfl (by kernel_rfl) Tryz.func6 (by kernel_rfl)
  (of_decide_eq_true (by kernel_rfl)) (by unfold Func.isWrapper;first | (rw [if_pos (by decide +kernel)];kernel_rfl) | (rw [if_neg (by decide +kernel)];exact ⟨rfl,rfl⟩))
  (fun os started H enc _ => lookRuns_lifted os started H enc)
theorem lookRuns_card : Rows.LookRunsCardSaid :=
 Claim7.holds_tied_plain_at .later [] [.data,.pinned] true (true,"62ebae410489cad30c5930fd19d1265aac909cb8ae49d690f4ae670f717eaa1a") true lookRuns_said (fun _ h => by cases h) (by kernel_rfl) (fun _ h => by cases h) lookRuns_row_tie rfl ⟨rfl,rfl⟩ (by kernel_rfl) rfl
  (fun f fn hf hfn => by
   obtain rfl : f = 6 := Option.some.inj ((show Tryz.prog.funcNamed "waterline/waterlinelaw22.LookRuns" = some 6 by kernel_rfl).symm.trans hf) |>.symm
   obtain rfl : fn = Tryz.f6 := (Option.some.inj (Tryz.func6.symm.trans hfn)).symm
   exact ⟨by kernel_rfl,fun j t ht => by
    rw [Tryz.params6] at ht
    have hm : t ∈ [28,23] := by simpa using Array.mem_of_getElem? ht
    have hall : ([28,23].all fun u => !Tryz.prog.wantsStandIn u) = true := by kernel_rfl
    exact (show Tryz.prog.wantsStandIn t = false by simpa using List.all_eq_true.1 hall t hm)⟩)
  (by kernel_rfl)
#print axioms lookRuns_card
end
end Go.Proofs.YtdpooagnbmpinaaGreatDoor
