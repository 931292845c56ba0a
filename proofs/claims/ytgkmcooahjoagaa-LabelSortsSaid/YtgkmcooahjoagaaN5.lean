/- LabelJoins returns true, whatever the two lists. Conditions: none. -/
import Derived.Test.YtgkmcooahjoagaaM4
import Derived.Test.YtgkmcooahjoagaaK9
namespace Go.Proofs.Ytgkmcooahjoagaa
open Go.RowKit

set_option maxRecDepth 200000 in
set_option maxHeartbeats 4000000 in
theorem joins_core (xs ys : List (List UInt8)) (A B : Option Addr) (n m c d : Nat) (w : World) (hn : xs.length = n) (hm : ys.length = m) (h10 : n ≤ 10) (g10 : m ≤ 10) (hs : ∀ x ∈ xs, x.length ≤ maxLen) (gs : ∀ x ∈ ys, x.length ≤ maxLen) (h : RowAt w A (xs.map encT)) (g : RowAt w B (ys.map encT)) :
    Calls Try.prog 4 #[.slice A n c, .slice B m d] w fun e w' => e = .returned (.bool true) ∧ Below w.heap.size w w' := by
  have HK := Lib.hid works_any
  obtain ⟨i0, hi, hz0, hz1, hz2⟩ := info_parts Try.infoStr
  have HR := Lib.hid h
  have GR := Lib.hid g
  have HN := Lib.hid (show (xs.map encT).length = n by rw [List.length_map, hn])
  have GN := Lib.hid (show (ys.map encT).length = m by rw [List.length_map, hm])
  have h1 : ∀ l : List (List UInt8), ∀ u ∈ l.map encT, u.oneCell' = true := fun l u hu => by
    obtain ⟨x, _, rfl⟩ := List.mem_map.1 hu; rfl
  have H1 := Lib.hid h1
  have HX := Lib.hid (And.intro hn hs)
  have GX := Lib.hid (And.intro hm gs)
  clear h g h1 hn hm hs gs
  go_enter Try.func4, Try.ntmps4
  go_wp2_with (at_builtin; refine wpList_append_row _ (by rfl) (.tmp 24) (.tmp 25) 22 rfl w.heap.size 9 i0 (.string ⟨#[]⟩) 16 Try.underlyingStrs hi hz0 hz1 hz2 rfl _ 0 [] rfl (ownsRow_empty w _ _ _ (Nat.le_refl _)) A n c (xs.map encT) rfl HN.out (HR.out.alloc _) (H1.out xs) ?c1 ?c2 ?c3 ?_)
  case c1 => unfold maxLen; omega
  case c2 => omega
  case c3 => simp
  intro v1 w1 hown1 hg1
  have HB1 : Hid (Below w.heap.size w w1) := ((Below.refl _ w).alloc (Nat.le_refl _) _).grown hg1 (by simp) (fun r e => by cases e; exact Nat.le_refl _)
  have hsz1 := HB1.out.size
  have HO1 := Lib.hid hown1
  have HLT1 := Lib.hid hown1.lt
  clear hown1 hg1
  go_wp2_with (at_builtin; refine wpList_append_row _ (by rfl) (.tmp 26) (.tmp 27) 22 rfl w.heap.size 9 i0 (.string ⟨#[]⟩) 16 Try.underlyingStrs hi hz0 hz1 hz2 rfl _ _ _ rfl HO1.out B m d (ys.map encT) rfl GN.out (GR.out.below HB1.out) (H1.out ys) ?c1 ?c2 ?c3 ?_)
  case c1 => unfold maxLen; omega
  case c2 => omega
  case c3 => omega
  intro v2 w2 hown2 hg2
  have HB2 : Hid (Below w.heap.size w w2) := HB1.out.grown hg2 (by omega) (fun r e => (HLT1.out r e).1)
  rw [← List.map_append] at hown2
  obtain ⟨p, hp⟩ : ∃ p, n + m = p := ⟨_, rfl⟩
  have hp20 : p ≤ 20 := by omega
  rw [hp] at hown2
  obtain ⟨F, cf, rfl, hcf, hcm⟩ := owns_slice hown2
  have FR := Lib.hid (row_of_own hown2)
  have HP : Hid ((xs ++ ys).length = p) := by rw [Hid, List.length_append, HX.out.1, GX.out.1, hp]
  have HPS : Hid (∀ x ∈ xs ++ ys, x.length ≤ maxLen) := fun x hx => (List.mem_append.1 hx).elim (HX.out.2 x) (GX.out.2 x)
  clear hown2 hg2 HO1 HLT1
  have HR2 := Lib.hid (HR.out.below HB2.out)
  have GR2 := Lib.hid (GR.out.below HB2.out)
  have hF : p = 0 ∨ ∃ b off, F = some ⟨b, off, none⟩ := by
    rcases Nat.eq_zero_or_pos p with h0 | h0
    · exact .inl h0
    · obtain ⟨b, off, e, _⟩ := FR.out (by rw [List.length_map, HP.out]; exact h0)
      exact .inr ⟨b, off, e⟩
  have HSP : Hid (((xs ++ ys).all rightB = true ∧ xs.all rightB = true ∧ ys.all rightB = true) ∨ ((xs ++ ys).all rightB = false ∧ xs.all rightB = false ∧ ys.all rightB = true) ∨ ((xs ++ ys).all rightB = false ∧ xs.all rightB = true ∧ ys.all rightB = false) ∨ ((xs ++ ys).all rightB = false ∧ xs.all rightB = false ∧ ys.all rightB = false)) := by
    rw [Hid, List.all_append]
    cases xs.all rightB <;> cases ys.all rightB <;> simp
  rcases hF with rfl | ⟨fb, fo, rfl⟩
  · go_wp2_with fail
    refine wp_loop_rounds 1 ?_
    rw [rounds_succ]
    go_wp2_with fail
    rcases HSP.out with ⟨ha, hx, hy⟩ | hbad
    · obtain ⟨mx, hmx⟩ : ∃ mx, (sortL xs).length = mx := ⟨_, rfl⟩
      obtain ⟨my, hmy⟩ : ∃ my, (sortL ys).length = my := ⟨_, rfl⟩
      obtain ⟨mz, hmz⟩ : ∃ mz, (sortL (xs ++ ys)).length = mz := ⟨_, rfl⟩
      have hx10 : mx ≤ 10 := by have := length_sortL xs; have := HX.out.1; omega
      have hy10 : my ≤ 10 := by have := length_sortL ys; have := GX.out.1; omega
      have hz20 : mz ≤ 20 := by have := length_sortL (xs ++ ys); have := HP.out; omega
      refine (sortedIs xs A n c _ HX.out.1 (by omega) HX.out.2 HR2.out hx mx hmx).mono ?_
      rintro e w3 ⟨A3, c3, rfl, hc3, hcm3, R3, hb3⟩
      have HB3 := Lib.hid (below_trans HB2.out hb3)
      have GR3 := Lib.hid (GR2.out.below hb3)
      have FR3 := Lib.hid (FR.out.below hb3)
      clear hb3
      go_wp2_with fail
      refine (sortedIs ys B m d _ GX.out.1 (by omega) GX.out.2 GR3.out hy my hmy).mono ?_
      rintro e w4 ⟨A4, c4, rfl, hc4, hcm4, R4, hb4⟩
      have HB4 := Lib.hid (below_trans HB3.out hb4)
      have FR4 := Lib.hid (FR3.out.below hb4)
      have R34 := Lib.hid (R3.out.below hb4)
      clear hb4
      go_wp2_with fail
      refine (sortedIs (xs ++ ys) _ _ cf _ HP.out (by omega) HPS.out FR4.out ha mz hmz).mono ?_
      rintro e w5 ⟨A5, c5, rfl, hc5, hcm5, R5, hb5⟩
      have HB5 := Lib.hid (below_trans HB4.out hb5)
      have R35 := Lib.hid (R34.out.below hb5)
      have R45 := Lib.hid (R4.out.below hb5)
      clear hb5
      have hm1 : ((sortL xs).map encT).length = mx := by rw [List.length_map, hmx]
      have hm2 : ((sortL ys).map encT).length = my := by rw [List.length_map, hmy]
      have HM1 := Lib.hid hm1
      have HM2 := Lib.hid hm2
      clear hm1 hm2
      go_wp2_with (first
        | (go_at_call 12; refine (num_any _ _).mono ?_; rintro e w9 ⟨rfl, rfl⟩)
        | (at_builtin; refine wpList_append_row _ (by rfl) _ _ 22 rfl w5.heap.size 9 i0 (.string ⟨#[]⟩) 16 Try.underlyingStrs hi hz0 hz1 hz2 rfl _ 0 [] rfl (ownsRow_empty w5 _ _ _ (Nat.le_refl _)) A3 mx c3 ((sortL xs).map encT) rfl HM1.out (R35.out.alloc _) (H1.out (sortL xs)) ?c1 ?c2 ?c3 ?_))
      case c1 => unfold maxLen; omega
      case c2 => omega
      case c3 => simp
      intro v6 w6 hown6 hg6
      have HB6 : Hid (Below w5.heap.size w5 w6) := ((Below.refl _ w5).alloc (Nat.le_refl _) _).grown hg6 (by simp) (fun r e => by cases e; exact Nat.le_refl _)
      have hsz6 := HB6.out.size
      have HO6 := Lib.hid hown6
      have HLT6 := Lib.hid hown6.lt
      clear hown6 hg6
      go_wp2_with (at_builtin; refine wpList_append_row _ (by rfl) _ _ 22 rfl w5.heap.size 9 i0 (.string ⟨#[]⟩) 16 Try.underlyingStrs hi hz0 hz1 hz2 rfl _ _ _ rfl HO6.out A4 my c4 ((sortL ys).map encT) rfl HM2.out (R45.out.below HB6.out) (H1.out (sortL ys)) ?c1 ?c2 ?c3 ?_)
      case c1 => unfold maxLen; omega
      case c2 => omega
      case c3 => omega
      intro v7 w7 hown7 hg7
      have HB7 : Hid (Below w5.heap.size w5 w7) := HB6.out.grown hg7 (by omega) (fun r e => (HLT6.out r e).1)
      rw [← List.map_append] at hown7
      obtain ⟨mw, hmw⟩ : ∃ mw, mx + my = mw := ⟨_, rfl⟩
      rw [hmw] at hown7
      obtain ⟨A7, c7, rfl, hc7, hcm7⟩ := owns_slice hown7
      have R7 := Lib.hid (row_of_own hown7)
      have R57 := Lib.hid (R5.out.below HB7.out)
      have HW : Hid ((sortL xs ++ sortL ys).length = mw) := by rw [Hid, List.length_append, hmx, hmy, hmw]
      have HWS : Hid (∀ x ∈ sortL xs ++ sortL ys, x.length ≤ maxLen) := fun x hx => (List.mem_append.1 hx).elim (fun h => HX.out.2 x (mem_sortL.1 h)) (fun h => GX.out.2 x (mem_sortL.1 h))
      have hwa : (sortL xs ++ sortL ys).all rightB = true := by rw [List.all_append, all_sortL _ hx, all_sortL _ hy]; rfl
      have hwl : (sortL (sortL xs ++ sortL ys)).length = mz := by rw [sortL_join]; exact hmz
      clear hown7 hg7 HO6 HLT6
      go_wp2_with fail
      refine (sortedIs (sortL xs ++ sortL ys) A7 mw c7 _ HW.out (by omega) HWS.out R7.out hwa mz hwl).mono ?_
      rintro e w8 ⟨A8, c8, rfl, hc8, hcm8, R8, hb8⟩
      have HB8 := Lib.hid (below_trans (HB5.out.trans (HB7.out.mono HB5.out.size)) hb8)
      have R58 := Lib.hid (R57.out.below hb8)
      have R88 : Hid (RowAt w8 A8 ((sortL (xs ++ ys)).map encT)) := by have := R8.out; rw [sortL_join] at this; exact this
      clear hb8
      have HT := Lib.hid (texts_of (sortL (xs ++ ys)) (sortL (xs ++ ys)) A8 A5 mz mz c8 c5 w8 hmz hmz (by unfold maxLen; omega) R88.out R58.out)
      rw [decide_eq_true rfl] at HT
      go_wp2_with (go_at_call 12; refine (num_any _ _).mono ?_; rintro e w9 ⟨rfl, rfl⟩)
      refine HT.out.mono ?_
      rintro e w9 ⟨rfl, hb9⟩
      go_wp2_with fail
      refine (HK.out _).mono ?_
      rintro e w10 ⟨rfl, hb10⟩
      go_wp2_with fail
      go_ret
      exact ⟨rfl, below_trans (below_trans HB8.out hb9) hb10⟩
    · have e0 : errB true = 0 := rfl
      have e1 : errB false = 160 := rfl
      rcases hbad with ⟨ha, hx, hy⟩ | ⟨ha, hx, hy⟩ | ⟨ha, hx, hy⟩
      all_goals
        have HSX := Lib.hid (sortedAny xs A n c _ HX.out.1 (by omega) HX.out.2 HR2.out _ hx)
        have HSY := Lib.hid (fun W h => sortedAny ys B m d W GX.out.1 (by omega) GX.out.2 h _ hy)
        have HSZ := Lib.hid (fun F W h => sortedAny (xs ++ ys) F _ cf W HP.out (by omega) HPS.out h _ ha)
        simp only [e0, e1] at HSX HSY HSZ
        clear e0 e1
        refine HSX.out.mono ?_
        rintro e w3 ⟨v3, rfl, hb3⟩
        have HB3 := Lib.hid (below_trans HB2.out hb3)
        have GR3 := Lib.hid (GR2.out.below hb3)
        have FR3 := Lib.hid (FR.out.below hb3)
        clear hb3
        go_wp2_with fail
        refine (HSY.out _ GR3.out).mono ?_
        rintro e w4 ⟨v4, rfl, hb4⟩
        have HB4 := Lib.hid (below_trans HB3.out hb4)
        have FR4 := Lib.hid (FR3.out.below hb4)
        clear hb4
        go_wp2_with fail
        refine (HSZ.out _ _ FR4.out).mono ?_
        rintro e w5 ⟨v5, rfl, hb5⟩
        have HB5 := Lib.hid (below_trans HB4.out hb5)
        clear hb5
        go_wp2_with (go_at_call 12; refine (num_any _ _).mono ?_; rintro e w9 ⟨rfl, rfl⟩)
        refine (HK.out _).mono ?_
        rintro e w10 ⟨rfl, hb10⟩
        go_wp2_with fail
        go_ret
        exact ⟨rfl, below_trans HB5.out hb10⟩
  · go_wp2_with fail
    go_loopw [6] (fun i wr => ∃ k : Nat, k ≤ p ∧ i = .int .i64 k ∧ wr = w2) (fun i _ => p - (intOf i).toNat)
    case atStart => exact ⟨0, Nat.zero_le _, rfl, rfl⟩
    case round =>
      obtain ⟨k, hk, rfl, rfl⟩ := hrel
      by_cases hlt : k < p
      · have hk' : k < (xs ++ ys).length := by rw [HP.out]; exact hlt
        obtain ⟨b', off', e', hb', hcl⟩ := FR.out.get (k := k) (u := encT (xs ++ ys)[k]) (by rw [List.getElem?_map, List.getElem?_eq_getElem hk']; rfl)
        cases e'
        have hxs : (ofBytes (xs ++ ys)[k]).size ≤ maxLen := HPS.out _ (List.getElem_mem hk')
        unfold maxLen at hxs
        unfold encT at hcl
        generalize ofBytes (xs ++ ys)[k] = x at hcl hxs
        by_cases h60 : 60 < x.size
        · go_wp2_with fail
          refine (HK.out _).mono ?_
          rintro e w' ⟨rfl, hb⟩
          go_wp2_with fail
          go_ret
          exact ⟨rfl, below_trans HB2.out hb⟩
        · go_wp2_with fail
          exact ⟨⟨k + 1, by omega, by go_num, by first | rfl | trivial⟩, by simp [intOf]; omega⟩
      · have hkn : k = p := by omega
        subst hkn
        go_wp2_with fail
        rcases HSP.out with ⟨ha, hx, hy⟩ | hbad
        · obtain ⟨mx, hmx⟩ : ∃ mx, (sortL xs).length = mx := ⟨_, rfl⟩
          obtain ⟨my, hmy⟩ : ∃ my, (sortL ys).length = my := ⟨_, rfl⟩
          obtain ⟨mz, hmz⟩ : ∃ mz, (sortL (xs ++ ys)).length = mz := ⟨_, rfl⟩
          have hx10 : mx ≤ 10 := by have := length_sortL xs; have := HX.out.1; omega
          have hy10 : my ≤ 10 := by have := length_sortL ys; have := GX.out.1; omega
          have hz20 : mz ≤ 20 := by have := length_sortL (xs ++ ys); have := HP.out; omega
          refine (sortedIs xs A n c _ HX.out.1 (by omega) HX.out.2 HR2.out hx mx hmx).mono ?_
          rintro e w3 ⟨A3, c3, rfl, hc3, hcm3, R3, hb3⟩
          have HB3 := Lib.hid (below_trans HB2.out hb3)
          have GR3 := Lib.hid (GR2.out.below hb3)
          have FR3 := Lib.hid (FR.out.below hb3)
          clear hb3
          go_wp2_with fail
          refine (sortedIs ys B m d _ GX.out.1 (by omega) GX.out.2 GR3.out hy my hmy).mono ?_
          rintro e w4 ⟨A4, c4, rfl, hc4, hcm4, R4, hb4⟩
          have HB4 := Lib.hid (below_trans HB3.out hb4)
          have FR4 := Lib.hid (FR3.out.below hb4)
          have R34 := Lib.hid (R3.out.below hb4)
          clear hb4
          go_wp2_with fail
          refine (sortedIs (xs ++ ys) _ _ cf _ HP.out (by omega) HPS.out FR4.out ha mz hmz).mono ?_
          rintro e w5 ⟨A5, c5, rfl, hc5, hcm5, R5, hb5⟩
          have HB5 := Lib.hid (below_trans HB4.out hb5)
          have R35 := Lib.hid (R34.out.below hb5)
          have R45 := Lib.hid (R4.out.below hb5)
          clear hb5
          have hm1 : ((sortL xs).map encT).length = mx := by rw [List.length_map, hmx]
          have hm2 : ((sortL ys).map encT).length = my := by rw [List.length_map, hmy]
          have HM1 := Lib.hid hm1
          have HM2 := Lib.hid hm2
          clear hm1 hm2
          go_wp2_with (first
            | (go_at_call 12; refine (num_any _ _).mono ?_; rintro e w9 ⟨rfl, rfl⟩)
            | (at_builtin; refine wpList_append_row _ (by rfl) _ _ 22 rfl w5.heap.size 9 i0 (.string ⟨#[]⟩) 16 Try.underlyingStrs hi hz0 hz1 hz2 rfl _ 0 [] rfl (ownsRow_empty w5 _ _ _ (Nat.le_refl _)) A3 mx c3 ((sortL xs).map encT) rfl HM1.out (R35.out.alloc _) (H1.out (sortL xs)) ?c1 ?c2 ?c3 ?_))
          case c1 => unfold maxLen; omega
          case c2 => omega
          case c3 => simp
          intro v6 w6 hown6 hg6
          have HB6 : Hid (Below w5.heap.size w5 w6) := ((Below.refl _ w5).alloc (Nat.le_refl _) _).grown hg6 (by simp) (fun r e => by cases e; exact Nat.le_refl _)
          have hsz6 := HB6.out.size
          have HO6 := Lib.hid hown6
          have HLT6 := Lib.hid hown6.lt
          clear hown6 hg6
          go_wp2_with (at_builtin; refine wpList_append_row _ (by rfl) _ _ 22 rfl w5.heap.size 9 i0 (.string ⟨#[]⟩) 16 Try.underlyingStrs hi hz0 hz1 hz2 rfl _ _ _ rfl HO6.out A4 my c4 ((sortL ys).map encT) rfl HM2.out (R45.out.below HB6.out) (H1.out (sortL ys)) ?c1 ?c2 ?c3 ?_)
          case c1 => unfold maxLen; omega
          case c2 => omega
          case c3 => omega
          intro v7 w7 hown7 hg7
          have HB7 : Hid (Below w5.heap.size w5 w7) := HB6.out.grown hg7 (by omega) (fun r e => (HLT6.out r e).1)
          rw [← List.map_append] at hown7
          obtain ⟨mw, hmw⟩ : ∃ mw, mx + my = mw := ⟨_, rfl⟩
          rw [hmw] at hown7
          obtain ⟨A7, c7, rfl, hc7, hcm7⟩ := owns_slice hown7
          have R7 := Lib.hid (row_of_own hown7)
          have R57 := Lib.hid (R5.out.below HB7.out)
          have HW : Hid ((sortL xs ++ sortL ys).length = mw) := by rw [Hid, List.length_append, hmx, hmy, hmw]
          have HWS : Hid (∀ x ∈ sortL xs ++ sortL ys, x.length ≤ maxLen) := fun x hx => (List.mem_append.1 hx).elim (fun h => HX.out.2 x (mem_sortL.1 h)) (fun h => GX.out.2 x (mem_sortL.1 h))
          have hwa : (sortL xs ++ sortL ys).all rightB = true := by rw [List.all_append, all_sortL _ hx, all_sortL _ hy]; rfl
          have hwl : (sortL (sortL xs ++ sortL ys)).length = mz := by rw [sortL_join]; exact hmz
          clear hown7 hg7 HO6 HLT6
          go_wp2_with fail
          refine (sortedIs (sortL xs ++ sortL ys) A7 mw c7 _ HW.out (by omega) HWS.out R7.out hwa mz hwl).mono ?_
          rintro e w8 ⟨A8, c8, rfl, hc8, hcm8, R8, hb8⟩
          have HB8 := Lib.hid (below_trans (HB5.out.trans (HB7.out.mono HB5.out.size)) hb8)
          have R58 := Lib.hid (R57.out.below hb8)
          have R88 : Hid (RowAt w8 A8 ((sortL (xs ++ ys)).map encT)) := by have := R8.out; rw [sortL_join] at this; exact this
          clear hb8
          have HT := Lib.hid (texts_of (sortL (xs ++ ys)) (sortL (xs ++ ys)) A8 A5 mz mz c8 c5 w8 hmz hmz (by unfold maxLen; omega) R88.out R58.out)
          rw [decide_eq_true rfl] at HT
          go_wp2_with (go_at_call 12; refine (num_any _ _).mono ?_; rintro e w9 ⟨rfl, rfl⟩)
          refine HT.out.mono ?_
          rintro e w9 ⟨rfl, hb9⟩
          go_wp2_with fail
          refine (HK.out _).mono ?_
          rintro e w10 ⟨rfl, hb10⟩
          go_wp2_with fail
          go_ret
          exact ⟨rfl, below_trans (below_trans HB8.out hb9) hb10⟩
        · have e0 : errB true = 0 := rfl
          have e1 : errB false = 160 := rfl
          rcases hbad with ⟨ha, hx, hy⟩ | ⟨ha, hx, hy⟩ | ⟨ha, hx, hy⟩
          all_goals
            have HSX := Lib.hid (sortedAny xs A n c _ HX.out.1 (by omega) HX.out.2 HR2.out _ hx)
            have HSY := Lib.hid (fun W h => sortedAny ys B m d W GX.out.1 (by omega) GX.out.2 h _ hy)
            have HSZ := Lib.hid (fun F W h => sortedAny (xs ++ ys) F _ cf W HP.out (by omega) HPS.out h _ ha)
            simp only [e0, e1] at HSX HSY HSZ
            clear e0 e1
            refine HSX.out.mono ?_
            rintro e w3 ⟨v3, rfl, hb3⟩
            have HB3 := Lib.hid (below_trans HB2.out hb3)
            have GR3 := Lib.hid (GR2.out.below hb3)
            have FR3 := Lib.hid (FR.out.below hb3)
            clear hb3
            go_wp2_with fail
            refine (HSY.out _ GR3.out).mono ?_
            rintro e w4 ⟨v4, rfl, hb4⟩
            have HB4 := Lib.hid (below_trans HB3.out hb4)
            have FR4 := Lib.hid (FR3.out.below hb4)
            clear hb4
            go_wp2_with fail
            refine (HSZ.out _ _ FR4.out).mono ?_
            rintro e w5 ⟨v5, rfl, hb5⟩
            have HB5 := Lib.hid (below_trans HB4.out hb5)
            clear hb5
            go_wp2_with (go_at_call 12; refine (num_any _ _).mono ?_; rintro e w9 ⟨rfl, rfl⟩)
            refine (HK.out _).mono ?_
            rintro e w10 ⟨rfl, hb10⟩
            go_wp2_with fail
            go_ret
            exact ⟨rfl, below_trans HB5.out hb10⟩
end Go.Proofs.Ytgkmcooahjoagaa
