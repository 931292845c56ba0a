/- The contracts of the document's Run and Ats. Conditions: none. -/
import Derived.Test.YtdlblbhmeidhbaaGreatDoorZI7
import Derived.Test.YtdlblbhmeidhbaaGreatDoorZD2
namespace Go.Proofs.YtdlblbhmeidhbaaGreatDoor
open Go.RowKit

variable {FA : Option Addr} {nf cf : Nat} {fed : List Nat}
theorem okSt0 (fed : List Nat) : OkSt fed ([], false) := ⟨by simp, fun _ => by simp⟩
/-- A reader, laid just now. -/
theorem rfAt_new (W : World) (T : TypeId) (hfl : fed.length = nf) (hrow : RowAt W FA (fed.map encW)) : RfAt W.heap.size FA nf cf fed ([], false) (W.alloc (.cells #[.slice FA nf cf, .slice none 0 0, .bool false] T)) := by
  refine ⟨⟨by simp, cell_new W _ _ 0 _ rfl, hfl, hrow.alloc _, fun hp b off e => ?_, ⟨.slice none 0 0, cell_new W _ _ 1 _ rfl, World.ownsRow_nil _ _ _ _⟩, ?_⟩, cell_new W _ _ 2 _ rfl, ?_⟩
  · obtain ⟨b', off', e', hb', _⟩ := hrow (by rw [List.length_map]; exact hp)
    rw [e] at e'
    cases e'
    exact hb'
  · exact (World.frozen?_of_block (w := W.alloc (.cells #[.slice FA nf cf, .slice none 0 0, .bool false] T)) rfl).trans (by simp)
  · exact (World.frozen?_of_block (w := W.alloc (.cells #[.slice FA nf cf, .slice none 0 0, .bool false] T)) rfl).trans (by simp)
theorem begunN_split {s : List UInt8} {n : Nat} : ((readP s).1 ≠ 0 ∧ begunN s n = (readP s).1) ∨ ((readP s).1 = 0 ∧ 20000 < n ∧ begunN s n = 3) ∨ ((readP s).1 = 0 ∧ n ≤ 20000 ∧ begunN s n = 0) := by
  unfold begunN
  by_cases h0 : (readP s).1 = 0
  · by_cases h1 : 20000 < n
    · exact .inr (.inl ⟨h0, h1, by rw [if_pos h0, if_pos h1]⟩)
    · exact .inr (.inr ⟨h0, by omega, by rw [if_pos h0, if_neg h1]⟩)
  · exact .inl ⟨h0, by rw [if_neg h0]⟩
theorem owns_slice' {w : World} {base : Nat} {e : TypeId} {size : Nat} {v : Value} {n : Nat} {xs : List Value} (h : w.ownsRow base e size v n xs) : ∃ A c, v = .slice A n c ∧ n ≤ c ∧ c ≤ maxLen ∧ (A = none ∨ ∃ b off, A = some ⟨b, off, none⟩) := by
  rcases h.2 with ⟨h1, h2⟩ | ⟨g, cap, cur, h1, _, _, h2, h3, _⟩
  · exact ⟨none, 0, by rw [h1, h2], by omega, by simp [maxLen], .inl rfl⟩
  · exact ⟨_, _, h1, h2, h3, .inr ⟨g, 0, rfl⟩⟩
set_option maxRecDepth 100000 in
set_option maxHeartbeats 4000000 in
theorem refAts_any (s : ByteArray) (W : World) (hs : s.size < 4294967281) (hfl : fed.length = nf) (hnf : nf ≤ maxLen) (hx64 : ∀ x ∈ fed, x < 18446744073709551616) (hrow : RowAt W FA (fed.map encW)) :
    Calls Tryz.prog 11 #[.string s, .slice FA nf cf] W fun e W' => ∃ A c, e = .returned (.slice A (atsP (bytesOf s) fed).length c) ∧ RowAt W' A ((atsP (bytesOf s) fed).map encI) ∧ (atsP (bytesOf s) fed).length ≤ c ∧ c ≤ maxLen ∧ (A = none ∨ ∃ b off, A = some ⟨b, off, none⟩) ∧ Below W.heap.size W W' := by
  have HSP := Lib.hid (refsplit_any s W hs)
  have HAT : Hid (atsP (bytesOf s) fed = if begunN (bytesOf s) nf = 0 then (walkedP fed (readP (bytesOf s)).2).ats else []) := by rw [Hid, ← hfl]; rfl
  have hcs := readP_cases (bytesOf s)
  rcases begunN_split (s := bytesOf s) (n := nf) with ⟨h0, h1⟩ | ⟨h0, h1, h2⟩ | ⟨h0, h1, h2⟩
  · have HE : Hid (atsP (bytesOf s) fed = []) := by rw [Hid, HAT.out, if_neg (by rw [h1]; exact h0)]
    have hz : ((readP (bytesOf s)).1 != 0) = true := by rw [bne_iff_ne]; exact h0
    unfold SplitPPost at HSP
    generalize readP (bytesOf s) = rp at *
    obtain ⟨z, nm⟩ := rp
    simp only at *
    clear hcs h0 h1 hrow hx64
    go_enter Tryz.func11, Tryz.ntmps11
    go_wp2_with fail
    refine HSP.out.mono ?_
    rintro e w1 ⟨v, rfl, hp, hb1, _⟩
    go_wp2_with fail
    go_ret
    rw [HE.out]
    exact ⟨none, 0, rfl, RowAt.nil, Nat.le_refl _, by simp [maxLen], .inl rfl, hb1⟩
  · have HE : Hid (atsP (bytesOf s) fed = []) := by rw [Hid, HAT.out, if_neg (by rw [h2]; decide)]
    unfold SplitPPost at HSP
    generalize readP (bytesOf s) = rp at *
    obtain ⟨z, nm⟩ := rp
    simp only at *
    subst h0
    have hbig : decide ((20000 : Int) < (nf : Int)) = true := by simp; omega
    clear hcs h1 h2 hrow hx64
    go_enter Tryz.func11, Tryz.ntmps11
    go_wp2_with fail
    refine HSP.out.mono ?_
    rintro e w1 ⟨v, rfl, hp, hb1, _⟩
    go_wp2_with fail
    go_ret
    rw [HE.out]
    exact ⟨none, 0, rfl, RowAt.nil, Nat.le_refl _, by simp [maxLen], .inl rfl, hb1⟩
  · have HE : Hid (atsP (bytesOf s) fed = (walkedP fed (readP (bytesOf s)).2).ats) := by rw [Hid, HAT.out, if_pos h2]
    unfold SplitPPost at HSP
    have hq : (readP (bytesOf s)).2.length ≤ 100 ∧ ∀ x ∈ (readP (bytesOf s)).2, rightB x = true := by
      rcases hcs with ⟨_, h2, h3⟩ | ⟨h1, _⟩
      · exact ⟨by have := h2.1; omega, List.all_eq_true.1 h3⟩
      · omega
    generalize readP (bytesOf s) = rp at *
    obtain ⟨z, nm⟩ := rp
    simp only at *
    subst h0
    obtain ⟨h100, hright⟩ := hq
    have hsm : decide ((20000 : Int) < (nf : Int)) = false := by simp; omega
    have HSIM := Lib.hid (walk_sim (fed := fed) nm)
    have HR := Lib.hid hright
    have HX := Lib.hid hx64
    have HROW := Lib.hid hrow
    have HFL := Lib.hid hfl
    clear hcs h2 hrow hx64 hright hfl
    go_enter Tryz.func11, Tryz.ntmps11
    go_wp2_with fail
    refine HSP.out.mono ?_
    rintro e w1 ⟨v, rfl, ⟨NA, cn, rfl, hcn, hcm, hrn⟩, hb1, _⟩
    have hs1 := hb1.size
    have HB1 := Lib.hid hb1
    have HRF := Lib.hid (rfAt_new (cf := cf) w1 64 HFL.out (HROW.out.below hb1))
    have HWK := Lib.hid (walkR_any nm NA nm.length cn (w1.alloc (.cells #[.slice FA nf cf, .slice none 0 0, .bool false] 64)) rfl h100 hcn HR.out (hrn.alloc _) (fun hp b off e => by
      obtain ⟨b', off', e', hb', _⟩ := hrn (by rw [List.length_map]; exact hp)
      rw [e] at e'
      cases e'
      exact hb') (okSt0 fed) h1 HX.out HRF.out)
    clear hrn hb1
    go_wp2_with fail
    refine HWK.out.mono ?_
    rintro e w2 ⟨rfl, h2, hb2⟩
    have hats : (walkR fed nm ([], false)).2.1 = (walkedP fed nm).ats := by
      have h := HSIM.out
      unfold SimW at h
      cases hw : walkedP fed nm with
      | val t l => rw [hw] at h; simp only at h; rw [h]; rfl
      | stop o l =>
        rw [hw] at h
        cases o with
        | err c => simp only at h; rw [h]; rfl
        | need p => simp only at h; rw [h]; rfl
    have hrd := h2.rd
    rw [hats] at hrd
    obtain ⟨v, hv, hown⟩ := hrd.atsv
    obtain ⟨A, c, rfl, hc1, hc2, hAA⟩ := owns_slice' hown
    have HROW2 := Lib.hid (row_of_own hown)
    have HB2 : Hid (Below W.heap.size W w2) := by
      have ha : Below W.heap.size W (w1.alloc (.cells #[.slice FA nf cf, .slice none 0 0, .bool false] 64)) := HB1.out.alloc hs1 _
      exact ha.trans (hb2.to_below HRF.out.rd (by simp; omega) hs1)
    have HAA := Lib.hid hAA
    clear hAA
    generalize (walkR fed nm ([], false)).1 = q
    unfold encWV encNd encN
    clear hown hrd h2 hb2 hats HWK
    generalize (walkedP fed nm).ats = l at *
    obtain ⟨ll, hll⟩ : ∃ ll, l.length = ll := ⟨_, rfl⟩
    have HLL := Lib.hid hll
    rw [hll] at hv hc1
    clear hll
    go_wp2_with fail
    go_ret
    rw [HE.out, HLL.out]
    exact ⟨A, c, rfl, HROW2.out, hc1, hc2, HAA.out, HB2.out⟩
end Go.Proofs.YtdlblbhmeidhbaaGreatDoor
