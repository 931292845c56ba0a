/- LabelSorts returns true, whatever the texts. Conditions: none. -/
import Derived.Test.YtgkmcooahjoagaaN6
import Derived.Test.YtgkmcooahjoagaaM5
namespace Go.Proofs.Ytgkmcooahjoagaa
open Go.RowKit

theorem drop_at {α : Type} {xs : List α} {q : Nat} (h : q < xs.length) : xs.drop q = xs[q] :: xs.drop (q + 1) := List.drop_eq_getElem_cons h
theorem all_reverse' (p : List UInt8 → Bool) (xs : List (List UInt8)) : xs.reverse.all p = xs.all p := List.all_reverse

set_option maxRecDepth 200000 in
set_option maxHeartbeats 8000000 in
theorem sorts_core (xs : List (List UInt8)) (A : Option Addr) (n c : Nat) (w : World) (hn : xs.length = n) (h20 : n ≤ 20) (hs : ∀ x ∈ xs, x.length ≤ maxLen) (h : RowAt w A (xs.map encT)) :
    Calls Try.prog 3 #[.slice A n c] w fun e w' => e = .returned (.bool true) ∧ Below w.heap.size w w' := by
  obtain ⟨i0, hi, hz0, hz1, hz2⟩ := info_parts Try.infoStr
  have HK := Lib.hid works_any
  have HN := Lib.hid hn
  have HR := Lib.hid h
  have HSZ := Lib.hid hs
  have H1 : Hid (∀ l : List (List UInt8), ∀ u ∈ l.map encT, u.oneCell' = true) := fun l u hu => by
    obtain ⟨x, _, rfl⟩ := List.mem_map.1 hu; rfl
  clear h hn hs
  go_enter Try.func3, Try.ntmps3
  have hn1 : IntKind.i64.wrap ((n : Int) - 1) = (n : Int) - 1 := IntWalk.i64_in _ (by omega)
  go_wp2_with fail
  go_loopw [3, 4, 5] (fun r v i wr => ∃ (p : Nat) (rb : Bool) (m : Nat), p ≤ n ∧ r = .bool rb ∧ Hid ((xs.drop p).all rightB = rb) ∧ i = .int .i64 ((p : Int) - 1) ∧ Hid (((xs.drop p).reverse).length = m) ∧ wr.ownsRow w.heap.size 9 1 v m ((xs.drop p).reverse.map encT) ∧ Below w.heap.size w wr) (fun _ _ i _ => (intOf i + 1).toNat)
  case atStart => exact ⟨n, true, 0, Nat.le_refl _, rfl, by rw [Hid, ← HN.out, List.drop_length]; rfl, rfl, by rw [Hid, ← HN.out, List.drop_length]; rfl, by rw [← HN.out, List.drop_length]; exact World.ownsRow_nil _ _ _ _, Below.refl _ _⟩
  case round =>
    obtain ⟨p, rb, m, hp, rfl, HRB, rfl, HML, hown, hb⟩ := hrel
    have HB := Lib.hid hb
    have HO := Lib.hid hown
    clear hb hown
    cases p with
    | succ q =>
      have e1 : (((q + 1 : Nat) : Int) - 1) = (q : Int) := by omega
      rw [e1]
      have hql : q < xs.length := by rw [HN.out]; omega
      have hsx := HSZ.out xs[q] (List.getElem_mem hql)
      have HDQ := Lib.hid (drop_at hql)
      obtain ⟨b, off, rfl, hbw, hcb⟩ := HR.out.get (k := q) (u := encT xs[q]) (by rw [List.getElem?_map, List.getElem?_eq_getElem hql]; rfl)
      generalize xs[q] = x at hcb HDQ hsx
      have hcx : wr.cell? ⟨b, off + q, none⟩ = some (.string (ofBytes x)) := (HB.out.cell (p := ⟨b, off + q, none⟩) hbw).trans hcb
      obtain ⟨s, hs⟩ : ∃ s : ByteArray, ofBytes x = s := ⟨_, rfl⟩
      have HSX : Hid (s.data.toList = x) := by rw [← hs]; rfl
      have hss : s.size ≤ maxLen := by rw [← hs]; exact hsx
      rw [hs] at hcx
      clear hsx
      by_cases h60 : s.size ≤ 60
      · have HRR := Lib.hid (refRight_any s wr hss)
        rw [HSX.out] at HRR
        have HRB' : Hid (∀ b, rightB x = b → (xs.drop q).all rightB = (b && rb)) := fun b hb => by rw [HDQ.out, List.all_cons, hb, HRB.out]
        have HML' : Hid ((xs.drop q).reverse.length = m + 1) := by rw [Hid, HDQ.out, List.reverse_cons, List.length_append, HML.out]; rfl
        have hm20 : m ≤ 20 := by have := HML.out; rw [List.length_reverse, List.length_drop, HN.out] at this; omega
        have HO' : Hid (∀ (W : World) (v : Value), W.ownsRow w.heap.size 9 1 v (m + 1) ((xs.drop (q + 1)).reverse.map encT ++ [encT x]) → W.ownsRow w.heap.size 9 1 v (m + 1) ((xs.drop q).reverse.map encT)) := fun W v hv => by
          rw [HDQ.out, List.reverse_cons, List.map_append]; exact hv
        have HX1 : Hid (encT x = .string s) := by rw [Hid, ← hs]; rfl
        have hsz := HB.out.size
        obtain ⟨b, hb⟩ : ∃ b, rightB x = b := ⟨_, rfl⟩
        have HB1 := Lib.hid (HRB'.out b hb)
        rw [hb] at HRR
        clear hb HRB' HRB
        generalize xs.drop (q + 1) = d at *
        have HRO : Hid (∀ t, RowAt (wr.alloc (.cells #[.string s] t)) (some ⟨wr.heap.size, 0, none⟩) [encT x]) := fun t => by rw [← hs]; exact row_one wr x t
        clear hs HX1
        cases rb
        all_goals
          go_wp2_with (first
            | (go_at_call 10; refine HRR.out.mono ?_; rintro e w9 ⟨rfl, rfl⟩)
            | (at_builtin; refine wpList_append_row _ (by rfl) (.tmp 38) (.tmp 43) 22 rfl w.heap.size 9 i0 (.string ⟨#[]⟩) 16 Try.underlyingStrs hi hz0 hz1 hz2 rfl _ m (d.reverse.map encT) rfl (HO.out.alloc _) (some ⟨wr.heap.size, 0, none⟩) 1 1 [encT x] rfl rfl (HRO.out _) (H1.out [x]) ?c1 ?c2 ?c3 ?_))
          case c1 => unfold maxLen; omega
          case c2 => omega
          case c3 => simp; omega
          intro v1 w1 hown1 hg1
          have HLT := Lib.hid (HO.out.lt)
          have HB2 : Hid (Below w.heap.size w w1) := (HB.out.alloc hsz _).grown hg1 (by simp; omega) (fun r e => (HLT.out r e).1)
          first | rw [← List.map_reverse] at hown1 | skip
          have HO2 := Lib.hid (HO'.out _ _ hown1)
          clear hown1 hg1 HLT
          go_wp2_with fail
          exact ⟨⟨q, _, m + 1, by omega, rfl, HB1.out.trans (by first | rfl | exact Bool.and_false _ | exact Bool.and_true _), by go_num, HML', HO2.out, HB2.out⟩, by simp [intOf]⟩
      · clear HRB HML HO
        go_wp2_with fail
        refine (HK.out _).mono ?_
        rintro e w1 ⟨rfl, hb1⟩
        go_wp2_with fail
        go_ret
        exact ⟨rfl, below_trans HB.out hb1⟩
    | zero =>
      have e1 : (((0 : Nat) : Int) - 1) = -1 := rfl
      rw [e1]
      clear e1
      rw [List.drop_zero] at HRB HML HO
      obtain rfl : n = m := by have := HML.out; rw [List.length_reverse, HN.out] at this; exact this
      obtain ⟨B, d, rfl, hnd, hdm⟩ := owns_slice HO.out
      have HRW := Lib.hid (HR.out.below HB.out)
      have HRV := Lib.hid (row_of_own HO.out)
      have HSV : Hid (∀ x ∈ xs.reverse, x.length ≤ maxLen) := fun x hx => HSZ.out x (List.mem_reverse.1 hx)
      have HLV : Hid (xs.reverse.length = n) := by rw [Hid, List.length_reverse, HN.out]
      clear HO HML HR
      cases rb
      · have HS1 := Lib.hid (sortedNot xs A n c _ HN.out (by omega) HSZ.out HRW.out HRB.out)
        go_wp2_with fail
        refine HS1.out.mono ?_
        rintro e w3 ⟨rfl, hb3⟩
        have HB3 := Lib.hid (below_trans HB.out hb3)
        clear hb3
        go_wp2_with (go_at_call 12; refine (num_any _ _).mono ?_; rintro e w9 ⟨rfl, rfl⟩)
        refine (HK.out _).mono ?_
        rintro e w10 ⟨rfl, hb10⟩
        go_wp2_with fail
        go_ret
        exact ⟨rfl, below_trans HB3.out hb10⟩
      · obtain ⟨mx, hmx⟩ : ∃ mx, (sortL xs).length = mx := ⟨_, rfl⟩
        have hm20 : mx ≤ 20 := by have := length_sortL xs; have := HN.out; omega
        have HS1 := Lib.hid (sortedIs xs A n c _ HN.out (by omega) HSZ.out HRW.out HRB.out mx hmx)
        go_wp2_with fail
        refine HS1.out.mono ?_
        rintro e w3 ⟨A3, c3, rfl, hc3, hcm3, R3, hb3⟩
        have HB3 := Lib.hid (below_trans HB.out hb3)
        have RW3 := Lib.hid (HRW.out.below hb3)
        have RV3 := Lib.hid (HRV.out.below hb3)
        clear hb3 HS1
        have HS2 := Lib.hid (sortedIs xs.reverse B n d _ HLV.out (by omega) HSV.out RV3.out (by rw [all_reverse']; exact HRB.out) mx (by rw [sortL_back]; exact hmx))
        rw [sortL_back] at HS2
        go_wp2_with fail
        refine HS2.out.mono ?_
        rintro e w4 ⟨A4, c4, rfl, hc4, hcm4, R4, hb4⟩
        have HB4 := Lib.hid (below_trans HB3.out hb4)
        have RW4 := Lib.hid (RW3.out.below hb4)
        have R34 := Lib.hid (R3.out.below hb4)
        clear hb4 HS2
        have HS3 := Lib.hid (sortedIs (sortL xs) A3 mx c3 _ hmx (by omega) (fun x hx => HSZ.out x (mem_sortL.1 hx)) R34.out (all_sortL _ HRB.out) mx (by rw [sortL_again]; exact hmx))
        rw [sortL_again] at HS3
        go_wp2_with fail
        refine HS3.out.mono ?_
        rintro e w5 ⟨A5, c5, rfl, hc5, hcm5, R5, hb5⟩
        have HB5 := Lib.hid (below_trans HB4.out hb5)
        have RW5 := Lib.hid (RW4.out.below hb5)
        have R35 := Lib.hid (R34.out.below hb5)
        have R45 := Lib.hid (R4.out.below hb5)
        clear hb5 HS3
        have HS4 := Lib.hid (refSorted_any xs A n c w5 HN.out (by omega) RW5.out)
        go_wp2_with (go_at_call 12; refine (num_any _ _).mono ?_; rintro e w9 ⟨rfl, rfl⟩)
        refine HS4.out.mono ?_
        rintro e w6 ⟨A6, c6, m6, rfl, hm6, hc6, hcm6, R6, hb6⟩
        obtain rfl : m6 = mx := by rw [← hm6, hmx]
        have HB6 := Lib.hid (below_trans HB5.out hb6)
        have R36 := Lib.hid (R35.out.below hb6)
        have R46 := Lib.hid (R45.out.below hb6)
        have R56 := Lib.hid (R5.out.below hb6)
        clear hb6 HS4 hm6
        have HT : Hid (∀ (F G : Option Addr) (p q : Nat) (W : World), RowAt W F ((sortL xs).map encT) → RowAt W G ((sortL xs).map encT) →
            Calls Try.prog 13 #[.slice F m6 p, .slice G m6 q] W fun e w' => e = .returned (.bool true) ∧ Below W.heap.size W w') := fun F G p q W h1 h2 => by
          have := texts_of (sortL xs) (sortL xs) F G m6 m6 p q W hmx hmx (by unfold maxLen; omega) h1 h2
          rwa [decide_eq_true rfl] at this
        go_wp2_with fail
        refine (HT.out _ _ _ _ _ R36.out R6.out).mono ?_
        rintro e w7 ⟨rfl, hb7⟩
        have HB7 := Lib.hid (below_trans HB6.out hb7)
        have R37 := Lib.hid (R36.out.below hb7)
        have R47 := Lib.hid (R46.out.below hb7)
        have R57 := Lib.hid (R56.out.below hb7)
        clear hb7
        go_wp2_with fail
        refine (HT.out _ _ _ _ _ R47.out R37.out).mono ?_
        rintro e w8 ⟨rfl, hb8⟩
        have HB8 := Lib.hid (below_trans HB7.out hb8)
        have R38 := Lib.hid (R37.out.below hb8)
        have R58 := Lib.hid (R57.out.below hb8)
        clear hb8
        go_wp2_with fail
        refine (HT.out _ _ _ _ _ R58.out R38.out).mono ?_
        rintro e w9 ⟨rfl, hb9⟩
        have HB9 := Lib.hid (below_trans HB8.out hb9)
        clear hb9
        go_wp2_with fail
        refine (HK.out _).mono ?_
        rintro e w10 ⟨rfl, hb10⟩
        go_wp2_with fail
        go_ret
        exact ⟨rfl, below_trans HB9.out hb10⟩

set_option maxRecDepth 200000 in
set_option maxHeartbeats 1000000 in
theorem labelSorts_any (xs : List ByteArray) (A : Option Addr) (n c : Nat) (w : World) (hn : xs.length = n) (_ : n ≤ c) (_ : c ≤ maxLen) (hs : ∀ s ∈ xs, s.size ≤ maxLen) (h : RowAt w A (xs.map .string)) :
    Calls Try.prog 3 #[.slice A n c] w fun e w' => e = .returned (.bool true) ∧ Below w.heap.size w w' := by
  by_cases h20 : n ≤ 20
  · exact sorts_core (xs.map bytesOf) A n c w (by rw [List.length_map, hn]) h20 (text_sizes hs) (by rw [map_text]; exact h)
  · have HK := Lib.hid works_any
    clear h hs
    go_enter Try.func3, Try.ntmps3
    go_wp2_with fail
    refine (HK.out _).mono ?_
    rintro e w1 ⟨rfl, hb1⟩
    go_wp2_with fail
    go_ret
    exact ⟨rfl, hb1⟩
end Go.Proofs.Ytgkmcooahjoagaa
