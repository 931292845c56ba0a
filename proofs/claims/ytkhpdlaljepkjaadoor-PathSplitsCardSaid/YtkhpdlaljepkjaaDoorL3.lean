/- The law PathParents as a call. Conditions: none. -/
import Derived.Test.YtkhpdlaljepkjaaDoorL1
import Derived.Test.YtkhpdlaljepkjaaDoorK5
namespace Go.Proofs.YtkhpdlaljepkjaaDoor
open Go.RowKit Go.Shelf
attribute [local go_sem] Oper.semAt_some

theorem textP_size {l : List (List UInt8)} (h16 : l.length ≤ 16) (hr : l.all rightB = true) : (textP l).length ≤ 657 := by
  have := joinL_length 47 l (fun x hx => right_len (List.all_eq_true.1 hr x hx))
  rw [textP, List.length_cons]; omega
/-- Split of a text that reads as names. -/
theorem psplit_to {s : ByteArray} {z : Int} {l : List (List UInt8)} (h : readP (bytesOf s) = (z, l)) (hs : s.size < 4294967281) (W : World) :
    Calls Tryd.prog 10 #[.string s] W fun e W' => ∃ A c, e = .returned (.tuple #[.slice A l.length c, .int .i64 z]) ∧ l.length ≤ c ∧ c ≤ maxLen ∧ Hid (RowAt W' A (l.map fun x => .string (ofBytes x))) ∧ Below W.heap.size W W' := by
  refine (psplit_any s W hs).mono ?_
  rintro e W' ⟨v, rfl, ⟨A, c, rfl, h1, h2, h3⟩, hb, _⟩
  rw [h] at h1 h3 ⊢
  exact ⟨A, c, rfl, h1, h2, h3, hb⟩

set_option maxRecDepth 100000 in
set_option maxHeartbeats 1000000 in
theorem law_parents (s : ByteArray) (w : World) (hs : s.size < 140737488355328) :
    Calls Tryd.prog 5 #[.string s] w fun e w' => e = .returned (.bool true) ∧ Below w.heap.size w w' := by
  have HWK := Lib.hid works_any
  by_cases h1 : 300 < s.size
  · go_enter Tryd.func5, Tryd.ntmps5
    go_wp2_with fail
    refine (HWK.out _).mono ?_
    rintro e w' ⟨rfl, hb⟩
    go_wp2_with fail
    go_ret
    exact ⟨rfl, hb⟩
  · have HPA := Lib.hid (fun W => parent_any s W (by omega))
    unfold ParentPost at HPA
    by_cases hz : (parentP (bytesOf s)).2.2 = 0
    · obtain ⟨hr1, hr2, hr3⟩ := split_parent hz
      obtain ⟨h16, hall⟩ := readP_fine hr2
      obtain ⟨h16', hall'⟩ := readP_fine hr1
      have hps : (ofBytes (parentP (bytesOf s)).1).size < 4294967281 := by
        have : (ofBytes (parentP (bytesOf s)).1).size = (parentP (bytesOf s)).1.length := rfl
        rw [this, ← textP_readP hr1]
        have := textP_size h16' hall'
        omega
      rw [hz] at HPA
      obtain ⟨l1, hl1⟩ : ∃ l, readP (parentP (bytesOf s)).1 = (0, l) := ⟨_, Prod.ext hr1 rfl⟩
      obtain ⟨l2, hl2⟩ : ∃ l, readP (bytesOf s) = (0, l) := ⟨_, Prod.ext hr2 rfl⟩
      have HC1 := Lib.hid (psplit_to (s := ofBytes (parentP (bytesOf s)).1) hl1 hps)
      have HC2 := Lib.hid (psplit_to (s := s) hl2 (by omega))
      rw [hl1, hl2] at hr3
      rw [hl1] at h16'
      rw [hl2] at h16
      simp only at hr3 h16 h16'
      have HR3 := Lib.hid hr3
      clear hr1 hr2 hr3 hall hall' hps hl1 hl2 hz
      generalize ofBytes (parentP (bytesOf s)).1 = p at *
      generalize (parentP (bytesOf s)).2.1 = la at *
      obtain ⟨n, HN⟩ : ∃ n : Nat, Hid (l1.length = n) := ⟨_, rfl⟩
      have HM : Hid (l2.length = n + 1) := by rw [Hid, HR3.out, List.length_append, HN.out]; rfl
      rw [HN.out] at h16' HC1
      rw [HM.out] at h16 HC2
      obtain ⟨i0, hi, hz0, hz1, hz2⟩ := info_parts Tryd.infoString
      go_enter Tryd.func5, Tryd.ntmps5
      go_wp2_with fail
      refine (HPA.out _).mono ?_
      rintro e w1 ⟨rfl, hb1⟩
      go_wp2_with (go_at_call 15; refine (num_any _ _).mono ?_; rintro e w2 ⟨rfl, rfl⟩)
      refine (HC1.out _).mono ?_
      rintro e w2 ⟨A1, c1, rfl, hc1, hm1, HR1, hb2⟩
      have HB2 := Lib.hid (below_trans hb1 hb2)
      clear hb1 hb2
      go_wp2_with fail
      refine (HC2.out _).mono ?_
      rintro e w3 ⟨A2, c2, rfl, hc2, hm2, HR2, hb3⟩
      have HB3 := Lib.hid (below_trans HB2.out hb3)
      have HR1' := Lib.hid (HR1.out.below hb3)
      clear hb3 HR1
      have hsz3 := HB3.out.size
      have hnm : ∀ u ∈ (l1.map fun x => Value.string (ofBytes x)), u.oneCell' = true := fun u hu => by
        obtain ⟨x, _, rfl⟩ := List.mem_map.1 hu; rfl
      have hnl : (l1.map fun x => Value.string (ofBytes x)).length = n := by rw [List.length_map, HN.out]
      have HNM := Lib.hid hnm
      have HNL := Lib.hid hnl
      clear hnm hnl
      generalize hns : (l1.map fun x => Value.string (ofBytes x)) = news at *
      have HNS := Lib.hid hns
      clear hns
      go_wp2_with (first
        | (go_at_call 15; refine (num_any _ _).mono ?_; rintro e w2 ⟨rfl, rfl⟩)
        | (at_builtin; refine wpList_append_row _ (by rfl) (.tmp 42) (.tmp 43) 23 rfl w3.heap.size 9 i0 (.string ⟨#[]⟩) 16 Tryd.underlyingStrings hi hz0 hz1 hz2 rfl _ 0 [] rfl (ownsRow_empty w3 _ _ _ (Nat.le_refl _)) A1 n c1 news rfl HNL.out (HR1'.out.alloc _) HNM.out ?c1 ?c2 ?c3 ?_))
      case c1 => unfold maxLen; omega
      case c2 => omega
      case c3 => simp
      intro v1 w4 hown1 hg1
      have HB4 : Hid (Below w3.heap.size w3 w4) := ((Below.refl _ w3).alloc (Nat.le_refl _) _).grown hg1 (by simp) (fun r e => by cases e; exact Nat.le_refl _)
      have hsz4 := HB4.out.size
      have HO1 := Lib.hid hown1
      have HLT1 := Lib.hid hown1.lt
      clear hown1 hg1 HR1'
      go_wp2_with (at_builtin; refine wpList_append_row _ (by rfl) (.tmp 44) (.tmp 46) 23 rfl w3.heap.size 9 i0 (.string ⟨#[]⟩) 16 Tryd.underlyingStrings hi hz0 hz1 hz2 rfl _ _ _ rfl (HO1.out.alloc _) (some ⟨w4.heap.size, 0, none⟩) 1 1 _ rfl rfl (rowAt_new w4 [.string (ofBytes la)] 9) (fun u hu => by rw [List.mem_singleton.1 hu]; rfl) ?c1 ?c2 ?c3 ?_)
      case c1 => unfold maxLen; omega
      case c2 => omega
      case c3 => simp; omega
      intro v2 w5 hown2 hg2
      have HB5 : Hid (Below w3.heap.size w3 w5) := (HB4.out.alloc hsz4 _).grown hg2 (by simp; omega) (fun r e => (HLT1.out r e).1)
      obtain ⟨A3, c3, rfl, hnc3, hcm3, hrow3, _, _⟩ := row_of_owns hown2
      have HTX : Hid (Calls Tryd.prog 14 #[.slice A2 (n + 1) c2, .slice A3 (n + 1) c3] w5 fun e W' => e = .returned (.bool true) ∧ Below w5.heap.size w5 W') := by
        have := texts_any (l2.map ofBytes) (l2.map ofBytes) A2 A3 (n + 1) (n + 1) c2 c3 w5 (by rw [List.length_map, HM.out]) (by rw [List.length_map, HM.out]) (by unfold maxLen; omega)
          (by rw [List.map_map]; exact HR2.out.below HB5.out)
          (by rw [List.map_map, HR3.out, List.map_append]; rw [← HNS.out] at hrow3; exact hrow3)
        rw [show eqL (l2.map ofBytes) (l2.map ofBytes) = true by simp [eqL]] at this
        exact this
      clear hown2 hg2 hrow3
      go_wp2_with fail
      refine HTX.out.mono ?_
      rintro e w6 ⟨rfl, hb6⟩
      go_wp2_with fail
      refine (HWK.out _).mono ?_
      rintro e w7 ⟨rfl, hb7⟩
      go_wp2_with fail
      go_ret
      exact ⟨rfl, below_trans (below_trans (below_trans HB3.out HB5.out) hb6) hb7⟩
    · have hz' : ((parentP (bytesOf s)).2.2 != 0) = true := by rw [bne_iff_ne]; exact hz
      clear hz
      generalize (parentP (bytesOf s)).2.2 = z at *
      go_enter Tryd.func5, Tryd.ntmps5
      go_wp2_with fail
      refine (HPA.out _).mono ?_
      rintro e w1 ⟨rfl, hb1⟩
      go_wp2_with (go_at_call 15; refine (num_any _ _).mono ?_; rintro e w2 ⟨rfl, rfl⟩)
      refine (HWK.out _).mono ?_
      rintro e w' ⟨rfl, hb⟩
      go_wp2_with fail
      go_ret
      exact ⟨rfl, below_trans hb1 hb⟩
end Go.Proofs.YtkhpdlaljepkjaaDoor
