/- The document's answers Parent, Within, Prefixes. Conditions: none. -/
import Derived.Test.YtkhpdlaljepkjaaDoorD2
import Derived.Test.YtkhpdlaljepkjaaDoorC8
namespace Go.Proofs.YtkhpdlaljepkjaaDoor
open Go.RowKit
attribute [local go_sem] Oper.semAt_some

theorem joinP_names {l : List (List UInt8)} (h16 : l.length ≤ 16) (hr : l.all rightB = true) : joinP (l.map ofBytes) = (textP l, 0) := by
  have h1 : (l.map ofBytes).all rightS = true := by rw [List.all_map]; exact hr
  have h2 : (l.map ofBytes).map bytesOf = l := by rw [List.map_map]; exact List.map_id l
  rw [joinP, rightN_fine (by simp; omega), h1, if_pos (show errB true = 0 from rfl), h2]
theorem fine_take {l : List (List UInt8)} (h16 : l.length ≤ 16) (hr : l.all rightB = true) (k : Nat) : joinP ((l.take k).map ofBytes) = (textP (l.take k), 0) := by
  refine joinP_names (by rw [List.length_take]; omega) ?_
  rw [List.all_eq_true] at hr ⊢
  exact fun x hx => hr x (List.mem_of_mem_take hx)
theorem ofBytes_small {l : List (List UInt8)} (hr : l.all rightB = true) : ∀ s ∈ l.map ofBytes, s.size ≤ maxLen := fun s hs => by
  obtain ⟨x, hx, rfl⟩ := List.mem_map.1 hs
  have := right_len (List.all_eq_true.1 hr x hx)
  have h : (ofBytes x).size = x.length := rfl
  unfold maxLen; omega

/-- Join of the first names. -/
theorem refjoin_take {l : List (List UInt8)} {b off m c k : Nat} {w : World} (hl : l.length = m) (h16 : m ≤ 16) (hr : l.all rightB = true) (hk : k ≤ m) (h : RowAt w (some ⟨b, off, none⟩) (l.map fun x => .string (ofBytes x))) :
    Calls Tryd.prog 21 #[.slice (some ⟨b, off, none⟩) k c] w fun e w' => e = .returned (.tuple #[.string (ofBytes (textP (l.take k))), .int .i64 0]) ∧ w = w' := by
  have hr' : (l.take k).all rightB = true := by
    rw [List.all_eq_true] at hr ⊢
    exact fun x hx => hr x (List.mem_of_mem_take hx)
  have h1 := refjoin_any ((l.take k).map ofBytes) (some ⟨b, off, none⟩) k c w (by rw [List.length_map, List.length_take]; omega) (by unfold maxLen; omega) (ofBytes_small hr') (by
    have := h.take k
    rw [← List.map_take] at this
    rw [List.map_map]; exact this)
  rw [fine_take (by omega) hr k] at h1
  exact h1

set_option maxRecDepth 100000 in
set_option maxHeartbeats 1000000 in
theorem refparent_any (s : ByteArray) (w : World) (hs : s.size < 4294967281) :
    Calls Tryd.prog 13 #[.string s] w (ParentPost s w) := by
  have HC := Lib.hid (fun W => refsplit_any s W hs)
  have hcs := readP_cases (bytesOf s)
  have HP : Hid (parentP (bytesOf s) = if (readP (bytesOf s)).1 ≠ 0 then ([], [], (readP (bytesOf s)).1) else if (readP (bytesOf s)).2 = [] then ([], [], 5) else (textP ((readP (bytesOf s)).2.take ((readP (bytesOf s)).2.length - 1)), lastN (readP (bytesOf s)).2, 0)) := rfl
  unfold SplitPPost at HC
  generalize readP (bytesOf s) = rp at *
  obtain ⟨z, l⟩ := rp
  simp only at hcs HP HC
  have hq : (z != 0) = true ∧ l = [] ∨ z = 0 ∧ l = [] ∨ z = 0 ∧ 0 < l.length ∧ l.length ≤ 16 ∧ l.all rightB = true := by
    rcases hcs with ⟨e1, e2, e3⟩ | ⟨e1, e2⟩
    · cases l with
      | nil => exact .inr (.inl ⟨e1, rfl⟩)
      | cons y ys => exact .inr (.inr ⟨e1, by simp, e2.1, e3⟩)
    · exact .inl ⟨by rw [bne_iff_ne]; omega, e2⟩
  clear hcs
  rcases hq with ⟨hz, rfl⟩ | ⟨rfl, rfl⟩ | ⟨rfl, hl, hf1, hf⟩
  · have HPE : Hid (parentP (bytesOf s) = ([], [], z)) := by rw [Hid, HP.out, if_pos (by simpa using hz)]
    go_enter Tryd.func13, Tryd.ntmps13
    go_wp2_with fail
    refine (HC.out _).mono ?_
    rintro e w' ⟨v, rfl, ⟨A, c, rfl, h1, h2, h3⟩, hb, _⟩
    have H3 := Lib.hid h3
    clear h3
    go_wp2_with fail
    go_ret3
    exact ⟨by rw [HPE.out]; rfl, hb⟩
  · have HPE : Hid (parentP (bytesOf s) = ([], [], 5)) := by rw [Hid, HP.out]; simp
    go_enter Tryd.func13, Tryd.ntmps13
    go_wp2_with fail
    refine (HC.out _).mono ?_
    rintro e w' ⟨v, rfl, ⟨A, c, rfl, h1, h2, h3⟩, hb, _⟩
    have H3 := Lib.hid h3
    clear h3
    go_wp2_with fail
    go_ret3
    exact ⟨by rw [HPE.out]; rfl, hb⟩
  · have HF := Lib.hid hf
    clear hf
    go_enter Tryd.func13, Tryd.ntmps13
    go_wp2_with fail
    refine (HC.out _).mono ?_
    rintro e w' ⟨v, rfl, ⟨A, c, rfl, h1, h2, h3⟩, hb, _⟩
    obtain ⟨b, off, rfl, hbl, hcl⟩ := id (h3 (by rw [List.length_map]; exact hl))
    have H3 := Lib.hid h3
    have HCL := Lib.hid hcl
    clear h3 hcl
    have HPE : Hid (parentP (bytesOf s) = (textP (l.take (l.length - 1)), lastN l, 0)) := by
      rw [Hid, HP.out, if_neg (by simp), if_neg (fun e => by rw [e] at hl; simp at hl)]
    obtain ⟨m, HM, hm0, hm16⟩ : ∃ m : Nat, Hid (l.length = m) ∧ 0 < m ∧ m ≤ 16 := ⟨_, rfl, hl, hf1⟩
    rw [HM.out] at h1 HPE ⊢
    clear hf1 hl
    have hlast : w'.cell? ⟨b, off + (m - 1), none⟩ = some (.string (ofBytes (lastN l))) := by
      refine HCL.out (m - 1) _ ?_
      rw [lastN, List.getElem?_map, List.getLastD_eq_getLast?, List.getLast?_eq_getElem?, HM.out]
      rw [List.getElem?_eq_getElem (by rw [HM.out]; omega)]; rfl
    have hlx : Hid (Calls Tryd.prog 21 #[.slice (some ⟨b, off, none⟩) (m - 1) c] w' fun e W' => e = .returned (.tuple #[.string (ofBytes (textP (l.take (m - 1)))), .int .i64 0]) ∧ w' = W') :=
      refjoin_take HM.out hm16 HF.out (by omega) H3.out
    have hi0 : (0 : Int) ≤ (m : Int) - 1 := by omega
    have hi1 : (m : Int) - 1 < (m : Int) := by omega
    have hi2 : (m : Int) - 1 ≤ (c : Int) := by omega
    go_wp2_with fail
    refine hlx.out.mono ?_
    rintro e w2 ⟨rfl, rfl⟩
    go_wp2_with fail
    go_quiet (fail)
    go_wp2_with fail
    go_ret3
    exact ⟨by rw [HPE.out]; rfl, by first | exact hb | exact below_drewN hb _⟩

set_option maxRecDepth 100000 in
set_option maxHeartbeats 1000000 in
theorem refwithin_any (s t : ByteArray) (w : World) (hs : s.size < 4294967281) (ht : t.size < 4294967281) :
    Calls Tryd.prog 19 #[.string s, .string t] w (WithinPost s t w) := by
  have HC := Lib.hid (fun W => refsplit_any s W hs)
  have HC2 := Lib.hid (fun W => refsplit_any t W ht)
  have HP : Hid (withinP (bytesOf s) (bytesOf t) = if (readP (bytesOf s)).1 ≠ 0 then (false, (readP (bytesOf s)).1) else if (readP (bytesOf t)).1 ≠ 0 then (false, (readP (bytesOf t)).1) else (withinN (readP (bytesOf s)).2 (readP (bytesOf t)).2, 0)) := rfl
  unfold SplitPPost at HC HC2
  generalize readP (bytesOf s) = rp at *
  generalize readP (bytesOf t) = rq at *
  obtain ⟨z, l⟩ := rp
  obtain ⟨z2, l2⟩ := rq
  simp only at HP HC HC2
  by_cases hz : z = 0
  · subst hz
    by_cases hz2 : z2 = 0
    · subst hz2
      have HPE : Hid (withinP (bytesOf s) (bytesOf t) = (withinN l l2, 0)) := by rw [Hid, HP.out]; simp
      go_enter Tryd.func19, Tryd.ntmps19
      go_wp2_with fail
      refine (HC.out _).mono ?_
      rintro e w' ⟨v, rfl, ⟨A, c, rfl, h1, h2, h3⟩, hb, _⟩
      have H3 := Lib.hid h3
      have HB := Lib.hid hb
      clear h3 hb
      go_wp2_with fail
      refine (HC2.out _).mono ?_
      rintro e w2 ⟨v, rfl, ⟨A2, c2, rfl, h21, h22, h23⟩, hb2, _⟩
      have H23 := Lib.hid h23
      have HB2 := Lib.hid hb2
      have H3b := Lib.hid (H3.out.below hb2)
      obtain ⟨n, HN⟩ : ∃ m : Nat, Hid (l.length = m) := ⟨_, rfl⟩
      obtain ⟨m, HM⟩ : ∃ m : Nat, Hid (l2.length = m) := ⟨_, rfl⟩
      rw [HN.out] at h1 ⊢
      rw [HM.out] at h21 ⊢
      unfold maxLen at h2 h22
      clear h23 hb2
      by_cases hlt : n ≤ m
      · have HE : Hid (withinN l l2 = false) := by
          rw [Hid, withinN, decide_eq_false (by rw [HN.out, HM.out]; omega)]; rfl
        go_wp2_with fail
        go_ret2
        exact ⟨by rw [HPE.out, HE.out]; rfl, below_trans HB.out HB2.out⟩
      · have HE : Hid (withinN l l2 = eqL ((l.take m).map ofBytes) (l2.map ofBytes)) := by
          rw [Hid, withinN, HN.out, HM.out, decide_eq_true (by omega), Bool.true_and, eqL]
          congr 1
          rw [eq_iff_iff]
          exact ⟨fun e => by rw [e], fun e => by
            have := congrArg (List.map bytesOf) e
            rw [List.map_map, List.map_map] at this
            simpa [Function.comp_def, bytesOf_ofBytes] using this⟩
        have HEQ : Hid (Calls Tryd.prog 14 #[.slice A m c, .slice A2 m c2] w2 fun e W' => e = .returned (.bool (withinN l l2)) ∧ Below w2.heap.size w2 W') := by
          rw [HE.out]
          refine texts_any ((l.take m).map ofBytes) (l2.map ofBytes) A A2 m m c c2 w2 (by rw [List.length_map, List.length_take, HN.out]; omega) (by rw [List.length_map, HM.out]) (by unfold maxLen; omega) ?_ (by rw [List.map_map]; exact H23.out)
          have := H3b.out.take m
          rw [← List.map_take] at this
          rw [List.map_map]; exact this
        obtain ⟨b, off, rfl, hbx⟩ := H3b.out (by rw [List.length_map, HN.out]; omega)
        clear hbx
        have hi1 : (m : Int) ≤ (c : Int) := by omega
        go_wp2_with fail
        refine HEQ.out.mono ?_
        rintro e w3 ⟨rfl, hb3⟩
        go_wp2_with fail
        go_ret2
        exact ⟨by rw [HPE.out]; rfl, below_trans (below_trans HB.out HB2.out) hb3⟩
    · have hne : (z2 != 0) = true := by simpa using hz2
      have HPE : Hid (withinP (bytesOf s) (bytesOf t) = (false, z2)) := by rw [Hid, HP.out]; simp [hz2]
      clear hz2
      go_enter Tryd.func19, Tryd.ntmps19
      go_wp2_with fail
      refine (HC.out _).mono ?_
      rintro e w' ⟨v, rfl, ⟨A, c, rfl, h1, h2, h3⟩, hb, _⟩
      have H3 := Lib.hid h3
      have HB := Lib.hid hb
      clear h3 hb
      go_wp2_with fail
      refine (HC2.out _).mono ?_
      rintro e w2 ⟨v, rfl, ⟨A2, c2, rfl, h21, h22, h23⟩, hb2, _⟩
      have H23 := Lib.hid h23
      have HB2 := Lib.hid hb2
      clear h23 hb2
      go_wp2_with fail
      go_ret2
      exact ⟨by rw [HPE.out]; rfl, below_trans HB.out HB2.out⟩
  · have hne : (z != 0) = true := by simpa using hz
    have HPE : Hid (withinP (bytesOf s) (bytesOf t) = (false, z)) := by rw [Hid, HP.out]; simp [hz]
    clear hz
    go_enter Tryd.func19, Tryd.ntmps19
    go_wp2_with fail
    refine (HC.out _).mono ?_
    rintro e w' ⟨v, rfl, ⟨A, c, rfl, h1, h2, h3⟩, hb, _⟩
    have H3 := Lib.hid h3
    have HB := Lib.hid hb
    clear h3 hb
    go_wp2_with fail
    go_ret2
    exact ⟨by rw [HPE.out]; rfl, HB.out⟩

/-- The texts of the beginnings. -/
def prefT (l : List (List UInt8)) : List (List UInt8) := (prefN l).map (·.2)
def PrefPost (s : ByteArray) (w : World) (e : Ending) (w' : World) : Prop :=
  ∃ v, e = .returned v ∧ PathAt w' v (prefT (readP (bytesOf s)).2) ∧ Below w.heap.size w w'
theorem prefT_some {l : List (List UInt8)} (h : l ≠ []) : prefT l = (List.range (l.length + 1)).map fun k => textP (l.take k) := by
  rw [prefT, prefN, if_neg h, List.map_map]; rfl
theorem range_snoc (f : Nat → List UInt8) (k : Nat) : (List.range (k + 1)).map f = (List.range k).map f ++ [f k] := by rw [List.range_succ, List.map_append]; rfl

set_option maxRecDepth 100000 in
set_option maxHeartbeats 1000000 in
theorem refprefixes_any (s : ByteArray) (w : World) (hs : s.size < 4294967281) :
    Calls Tryd.prog 16 #[.string s] w (PrefPost s w) := by
  have HC := Lib.hid (fun W => refsplit_any s W hs)
  have hcs := readP_cases (bytesOf s)
  unfold SplitPPost at HC
  unfold PrefPost
  generalize readP (bytesOf s) = rp at *
  obtain ⟨z, l⟩ := rp
  simp only at hcs HC ⊢
  have hq : (z != 0) = true ∧ l = [] ∨ z = 0 ∧ l = [] ∨ z = 0 ∧ 0 < l.length ∧ l.length ≤ 16 ∧ l.all rightB = true := by
    rcases hcs with ⟨e1, e2, e3⟩ | ⟨e1, e2⟩
    · cases l with
      | nil => exact .inr (.inl ⟨e1, rfl⟩)
      | cons y ys => exact .inr (.inr ⟨e1, by simp, e2.1, e3⟩)
    · exact .inl ⟨by rw [bne_iff_ne]; omega, e2⟩
  clear hcs
  rcases hq with ⟨hz, rfl⟩ | ⟨rfl, rfl⟩ | ⟨rfl, hl, hf1, hf⟩
  iterate 2
    · go_enter Tryd.func16, Tryd.ntmps16
      go_wp2_with fail
      refine (HC.out _).mono ?_
      rintro e w' ⟨v, rfl, ⟨A, c, rfl, h1, h2, h3⟩, hb, _⟩
      have H3 := Lib.hid h3
      clear h3
      go_wp2_with fail
      go_ret
      exact ⟨.slice none 0 0, rfl, pathAt_nil _, hb⟩
  · have HF := Lib.hid hf
    have HPT : Hid (prefT l = (List.range (l.length + 1)).map fun k => textP (l.take k)) := prefT_some (fun e => by rw [e] at hl; simp at hl)
    clear hf
    obtain ⟨i0, hi, hz0, hz1, hz2⟩ := info_parts Tryd.infoString
    go_enter Tryd.func16, Tryd.ntmps16
    go_wp2_with fail
    refine (HC.out _).mono ?_
    rintro e w' ⟨v, rfl, ⟨A, c, rfl, h1, h2, h3⟩, hb, _⟩
    obtain ⟨b, off, rfl, hbl, hcl⟩ := id (h3 (by rw [List.length_map]; exact hl))
    have H3 := Lib.hid h3
    have HB := Lib.hid hb
    clear h3 hcl hb
    obtain ⟨m, HM, hm0, hm16⟩ : ∃ m : Nat, Hid (l.length = m) ∧ 0 < m ∧ m ≤ 16 := ⟨_, rfl, hl, hf1⟩
    rw [HM.out] at h1 HPT ⊢
    clear hf1 hl
    have hm0' : ((m : Int) == 0) = false := by rw [beq_eq_false_iff_ne]; omega
    go_wp2_with fail
    go_loopw [5, 6] (fun v i wr => ∃ k : Nat, i = .int .i64 k ∧ k ≤ m + 1 ∧ wr.ownsRow w'.heap.size 9 1 v k (((List.range k).map fun j => textP (l.take j)).map fun x => .string (ofBytes x)) ∧ Below w'.heap.size w' wr) (fun _ i _ => m + 1 - (intOf i).toNat)
    case atStart => exact ⟨0, rfl, Nat.zero_le _, World.ownsRow_nil _ _ _ _, Below.refl _ _⟩
    case round =>
      obtain ⟨k, rfl, hk, hown, hbr⟩ := hrel
      have HBR := Lib.hid hbr
      have hsz := hbr.size
      have HROW := Lib.hid (H3.out.below hbr)
      clear hbr
      by_cases hlt : k < m + 1
      · have HSN := Lib.hid (range_snoc (fun j => textP (l.take j)) k)
        have HOWN := Lib.hid hown
        have HLT := Lib.hid hown.lt
        have hlx : Hid (Calls Tryd.prog 21 #[.slice (some ⟨b, off, none⟩) k c] wr fun e W' => e = .returned (.tuple #[.string (ofBytes (textP (l.take k))), .int .i64 0]) ∧ wr = W') :=
          refjoin_take HM.out hm16 HF.out (by omega) HROW.out
        have hkc : (k : Int) ≤ (c : Int) := by omega
        clear hown
        go_wp2_with fail
        refine hlx.out.mono ?_
        rintro e w2 ⟨rfl, rfl⟩
        go_wp2_with (at_builtin; refine wpList_append_own _ rfl _ _ 23 rfl w'.heap.size 9 i0 (.string ⟨#[]⟩) 1 16 Tryd.underlyingStrings hi hz0 hz1 hz2 rfl (by decide) _ _ _ rfl (HOWN.out.alloc _) ⟨wr.heap.size, 0, none⟩ 1 1 [.string (ofBytes (textP (l.take k)))] rfl rfl ?c1 ?c2 ?c3 ?c4 ?c5 ?_)
        case c1 =>
          intro j u hj
          match j, hj with
          | 0, hj => simp at hj; subst hj; simp [Addr.add]
        case c2 => intro u hu; simp at hu; subst hu; rfl
        case c3 => unfold maxLen; omega
        case c4 => omega
        case c5 => simp; omega
        intro v' w1 hown' hgrow _
        have HB1 : Hid (Below w'.heap.size w' w1) := (HBR.out.alloc hsz _).grown hgrow (by simp; omega) (fun r e => (HLT.out r e).1)
        have HO1 := Lib.hid hown'
        clear hown' hgrow
        go_wp2_with fail
        go_roundw
        case rel => exact ⟨k + 1, by go_num, by omega, by rw [HSN.out, List.map_append, List.map_map]; exact HO1.out, HB1.out⟩
        case measure => simp [intOf]; omega
      · have hkm : k = m + 1 := by omega
        subst hkm
        obtain ⟨A', c', rfl, hnc, hcm, hrow, hfr, hlen⟩ := row_of_owns hown
        have HRW := Lib.hid hrow
        clear hrow hfr hown hlen
        go_wp2_with fail
        go_ret
        refine ⟨.slice A' (m + 1) c', rfl, ?_, below_trans HB.out HBR.out⟩
        rw [HPT.out]
        exact ⟨A', c', by simp, by simpa using hnc, hcm, HRW.out⟩
end Go.Proofs.YtkhpdlaljepkjaaDoor
