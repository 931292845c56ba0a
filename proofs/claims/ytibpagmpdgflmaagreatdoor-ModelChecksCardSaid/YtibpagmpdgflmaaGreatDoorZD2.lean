/- The document's answers for paths: Texts, Split, Join, Parent, Within. The document's answer Split. Conditions: none. -/
import Derived.Test.YtibpagmpdgflmaaGreatDoorZP1
import Derived.Laws.AppendOwn
namespace Go.Proofs.YtibpagmpdgflmaaGreatDoor
open Go.RowKit
attribute [local go_sem] Oper.semAt_some

set_option maxRecDepth 100000 in
set_option maxHeartbeats 1000000 in
theorem texts_anyD (xs ys : List ByteArray) (A B : Option Addr) (n m c d : Nat) (w : World) (hn : xs.length = n) (hn' : ys.length = m) (hm : n ≤ maxLen) (h : RowAt w A (xs.map .string)) (h' : RowAt w B (ys.map .string)) :
    Calls Tryz.prog 29 #[.slice A n c, .slice B m d] w fun e w' => e = .returned (.bool (eqL xs ys)) ∧ Below w.heap.size w w' := by
  unfold maxLen at hm
  have HN := Lib.hid hn
  have HN' := Lib.hid hn'
  have HR := Lib.hid h
  have HR' := Lib.hid h'
  clear hn h hn' h'
  by_cases hnm : n = m
  · subst hnm
    have hA : (n = 0 ∨ ((∃ b off, A = some ⟨b, off, none⟩) ∧ (∃ b off, B = some ⟨b, off, none⟩))) := by
      rcases Nat.eq_zero_or_pos n with h0 | h0
      · exact .inl h0
      · obtain ⟨b, off, e, _⟩ := HR.out (by rw [List.length_map, HN.out]; exact h0)
        obtain ⟨b', off', e', _⟩ := HR'.out (by rw [List.length_map, HN'.out]; exact h0)
        exact .inr ⟨⟨b, off, e⟩, ⟨b', off', e'⟩⟩
    rcases hA with h0 | ⟨⟨b, off, rfl⟩, ⟨b2, off2, rfl⟩⟩
    · have HX : Hid (eqL xs ys = true) := by
        rw [Hid, List.eq_nil_of_length_eq_zero (HN.out.trans h0), List.eq_nil_of_length_eq_zero (HN'.out.trans h0)]; rfl
      subst h0
      go_enter Tryz.func29, Tryz.ntmps29
      go_wp2_with fail
      refine wp_loop_rounds 1 ?_
      rw [rounds_succ]
      go_wp2_with fail
      go_ret
      exact ⟨by rw [HX.out]; rfl, Below.refl _ _⟩
    · go_enter Tryz.func29, Tryz.ntmps29
      go_wp2_with fail
      go_loopw [5] (fun i wr => ∃ k : Nat, k ≤ n ∧ i = .int .i64 k ∧ Below w.heap.size w wr ∧ Hid (xs.take k = ys.take k)) (fun i _ => n - (intOf i).toNat)
      case atStart => exact ⟨0, Nat.zero_le _, rfl, Below.refl _ _, Lib.hid (by simp)⟩
      case round =>
        obtain ⟨k, hk, rfl, hb, HP⟩ := hrel
        by_cases hlt : k < n
        · have hk' : k < xs.length := by rw [HN.out]; exact hlt
          have hk2 : k < ys.length := by rw [HN'.out]; exact hlt
          obtain ⟨b', off', e', hb', hc⟩ := HR.out.get (k := k) (u := .string xs[k]) (by rw [List.getElem?_map, List.getElem?_eq_getElem hk']; rfl)
          obtain ⟨b3, off3, e3, hb3, hc3⟩ := HR'.out.get (k := k) (u := .string ys[k]) (by rw [List.getElem?_map, List.getElem?_eq_getElem hk2]; rfl)
          have hc2 : wr.cell? ⟨b, off + k, none⟩ = some (.string xs[k]) := by
            cases e'
            rw [hb.cell (p := ⟨b, off + k, none⟩) hb']; exact hc
          have hc4 : wr.cell? ⟨b2, off2 + k, none⟩ = some (.string ys[k]) := by
            cases e3
            rw [hb.cell (p := ⟨b2, off2 + k, none⟩) hb3]; exact hc3
          have HD : Hid (xs.take (k + 1) = xs.take k ++ [xs[k]]) := List.take_succ_eq_append_getElem hk'
          have HD2 : Hid (ys.take (k + 1) = ys.take k ++ [ys[k]]) := List.take_succ_eq_append_getElem hk2
          generalize xs[k] = s at hc2 HD
          generalize ys[k] = s2 at hc4 HD2
          clear e' hc hb' e3 hc3 hb3
          have hr2 : (s.toList == s2.toList) = !(s.toList != s2.toList) := by simp [bne]
          cases hr : s.toList != s2.toList
          all_goals
            rw [hr] at hr2
            simp only [Bool.not_true, Bool.not_false] at hr2
          · have HE : Hid (xs.take (k + 1) = ys.take (k + 1)) := by
              rw [Hid, HD.out, HD2.out, HP.out, toList_inj (a := s) (b := s2) (by simpa using hr2)]
            go_wp2_with fail
            go_quiet (fail)
            go_wp2_with fail
            exact ⟨⟨k + 1, by omega, by go_num, below_drewN hb _, HE⟩, by simp [intOf]; omega⟩
          · have HE : Hid (eqL xs ys = false) := by
              rw [Hid, eqL, decide_eq_false_iff_not]; rintro rfl
              have := HD.out.symm.trans HD2.out
              have := List.append_cancel_left this
              simp at this; subst this; simp at hr2
            go_wp2_with fail
            go_quiet (fail)
            go_wp2_with fail
            go_ret
            exact ⟨by rw [HE.out]; rfl, by first | exact hb | exact below_drewN hb _⟩
        · have HE : Hid (eqL xs ys = true) := by
            have := HP.out
            rw [List.take_of_length_le (by rw [HN.out]; omega), List.take_of_length_le (by rw [HN'.out]; omega)] at this
            rw [Hid, eqL, decide_eq_true_iff]; exact this
          go_wp2_with fail
          go_ret
          exact ⟨by rw [HE.out]; rfl, hb⟩
  · have HX : Hid (eqL xs ys = false) := by
      rw [Hid, eqL, decide_eq_false_iff_not]; rintro rfl; exact hnm (HN.out.symm.trans HN'.out)
    have h1 : ((n : Int) != (m : Int)) = true := by simp; omega
    go_enter Tryz.func29, Tryz.ntmps29
    go_wp2_with fail
    go_ret
    exact ⟨by rw [HX.out]; rfl, Below.refl _ _⟩


theorem flat_textP {xs : List (List UInt8)} (h : xs ≠ []) : xs.flatMap (fun x => 47 :: x) = textP xs := by
  induction xs with
  | nil => exact absurd rfl h
  | cons x xs ih =>
    by_cases hx : xs = []
    · subst hx; simp [textP, joinL]
    · rw [List.flatMap_cons, ih hx, textP, textP, joinL_cons _ _ hx]; simp
theorem flat_take_succ (xs : List ByteArray) (k : Nat) (h : k < xs.length) : (xs.take (k + 1)).flatMap (fun x => 47 :: bytesOf x) = (xs.take k).flatMap (fun x => 47 :: bytesOf x) ++ 47 :: bytesOf xs[k] := by
  rw [List.take_succ_eq_append_getElem h]
  simp only [List.flatMap_append, List.flatMap_cons, List.flatMap_nil, List.append_nil]

set_option maxRecDepth 100000 in
set_option maxHeartbeats 1000000 in
theorem refjoin_any (xs : List ByteArray) (A : Option Addr) (n c : Nat) (w : World) (hn : xs.length = n) (hm : n ≤ maxLen) (hs : ∀ s ∈ xs, s.size ≤ maxLen) (h : RowAt w A (xs.map .string)) :
    Calls Tryz.prog 162 #[.slice A n c] w fun e w' => e = .returned (.tuple #[.string (ofBytes (joinP xs).1), .int .i64 (joinP xs).2]) ∧ w = w' := by
  unfold maxLen at hm
  have HR := Lib.hid h
  have HN := Lib.hid hn
  have HS := Lib.hid hs
  clear h hn hs
  by_cases h16 : 16 < n
  · have HJ : Hid (joinP xs = ([], 170)) := by
      rw [Hid, joinP, rightN_long (by rw [HN.out]; exact h16), if_neg (by decide)]
    go_enter Tryz.func162, Tryz.ntmps162
    go_wp2_with fail
    go_ret2
    exact ⟨by rw [HJ.out]; rfl, rfl⟩
  · have HJR : Hid (rightN xs = errB (xs.all rightS)) := rightN_fine (by rw [HN.out]; exact h16)
    rcases Nat.eq_zero_or_pos n with h0 | h0
    · subst h0
      have HX : Hid (xs = []) := List.eq_nil_of_length_eq_zero HN.out
      go_enter Tryz.func162, Tryz.ntmps162
      go_wp2_with fail
      refine wp_loop_rounds 1 ?_
      rw [rounds_succ]
      go_wp2_with fail
      go_ret2
      exact ⟨by rw [HX.out]; rfl, rfl⟩
    · obtain ⟨b, off, rfl, hbx⟩ := HR.out (by rw [List.length_map, HN.out]; exact h0)
      clear hbx
      go_enter Tryz.func162, Tryz.ntmps162
      go_wp2_with fail
      go_loopw [4, 5] (fun p i wr => ∃ (k : Nat) (q : ByteArray), k ≤ n ∧ i = .int .i64 k ∧ p = .string q ∧ wr = w ∧ q.size ≤ 41 * k ∧ Hid (bytesOf q = (xs.take k).flatMap (fun x => 47 :: bytesOf x) ∧ (xs.take k).all rightS = true)) (fun _ i _ => n - (intOf i).toNat)
      case atStart => exact ⟨0, _, Nat.zero_le _, rfl, rfl, rfl, Nat.zero_le _, rfl, rfl⟩
      case round =>
        obtain ⟨k, q, hk, rfl, rfl, rfl, hq, HP⟩ := hrel
        by_cases hlt : k < n
        · have hk' : k < xs.length := by rw [HN.out]; exact hlt
          obtain ⟨b', off', e', hb', hc⟩ := HR.out.get (k := k) (u := .string xs[k]) (by rw [List.getElem?_map, List.getElem?_eq_getElem hk']; rfl)
          cases e'
          have hxs : xs[k].size ≤ maxLen := HS.out _ (List.getElem_mem hk')
          unfold maxLen at hxs
          have HD : Hid ((xs.take (k + 1)).flatMap (fun x => 47 :: bytesOf x) = (xs.take k).flatMap (fun x => 47 :: bytesOf x) ++ 47 :: bytesOf xs[k]) := flat_take_succ xs k hk'
          have HAL : Hid ((xs.take (k + 1)).all rightS = ((xs.take k).all rightS && rightS xs[k])) := by
            rw [Hid, List.take_succ_eq_append_getElem hk', List.all_append]; simp
          have HM : Hid (xs.all rightS = true → rightS xs[k] = true) := fun h => List.all_eq_true.1 h _ (List.getElem_mem hk')
          generalize xs[k] = s at hc hxs HD HAL HM
          cases hr : rightS s
          · have HF : Hid (joinP xs = ([], 160)) := by
              have : xs.all rightS = false := by rw [Bool.eq_false_iff]; intro h; rw [HM.out h] at hr; cases hr
              rw [Hid, joinP, HJR.out, this, if_neg (by decide)]; rfl
            have HRT : Hid (rightB s.data.toList = false) := hr
            clear hr
            go_wp2_with (go_at_call 56; refine (refRight_any _ _ (by unfold maxLen; omega)).mono ?_; rintro e w' ⟨rfl, rfl⟩; rw [HRT.out])
            go_ret2
            exact ⟨by rw [HF.out]; rfl, rfl⟩
          · have HRT : Hid (rightB s.data.toList = true) := hr
            have hs40 : s.size ≤ 40 := right_len HRT.out
            clear hr
            go_wp2_with (go_at_call 56; refine (refRight_any _ _ (by unfold maxLen; omega)).mono ?_; rintro e w' ⟨rfl, rfl⟩; rw [HRT.out])
            go_roundw
            case rel => exact ⟨k + 1, _, by omega, by go_num, rfl, by first | rfl | trivial, by
              have h47 : (⟨#[47]⟩ : ByteArray).size = 1 := rfl
              first
                | omega
                | (simp; omega), by
              rw [Hid, HD.out, HAL.out, HP.out.2]
              refine ⟨?_, HRT.out⟩
              rw [bytesOf_append, bytesOf_append, HP.out.1, List.append_assoc]; rfl⟩
            case measure => simp [intOf]; omega
        · have hkn : k = n := by omega
          subst hkn
          have htk : xs.take xs.length = xs := List.take_length
          have HE : Hid (joinP xs = (bytesOf q, 0)) := by
            have h1 := HP.out.1
            have h2 := HP.out.2
            rw [← HN.out, htk] at h1 h2
            rw [Hid, joinP, HJR.out, h2, if_pos (show errB true = 0 from rfl), h1, ← flat_textP (by intro e; have := congrArg List.length e; rw [List.length_map, HN.out] at this; simp at this; omega), List.flatMap_map]
          have hne : (q.toList == []) = false := by
            have h1 := HP.out.1
            rw [← HN.out, htk] at h1
            rw [ByteArray.toList_eq, beq_eq_false_iff_ne]
            intro e
            rw [show q.data.toList = bytesOf q from rfl, h1] at e
            cases xs with
            | nil => have := HN.out; simp at this; omega
            | cons x xs => simp at e
          go_wp2_with fail
          go_ret2
          exact ⟨by rw [HE.out]; rfl, rfl⟩
end Go.Proofs.YtibpagmpdgflmaaGreatDoor

namespace Go.Proofs.YtibpagmpdgflmaaGreatDoor
open Go.RowKit
attribute [local go_sem] Oper.semAt_some

/-- What the loop over the bytes keeps. -/
def SplI (s : ByteArray) (k : Nat) (out : List ByteArray) (p : ByteArray) : Prop :=
  (∀ x ∈ out, bytesOf x ≠ []) ∧ (47 : UInt8) ∉ bytesOf p ∧
  (k ≤ s.size → splitL 47 ((bytesOf s).drop 1) = out.map bytesOf ++ splitL 47 (bytesOf p ++ (bytesOf s).drop k)) ∧ (s.size < k → splitL 47 ((bytesOf s).drop 1) = out.map bytesOf)

theorem drop_get (s : ByteArray) (k : Nat) (h : k < s.size) : (bytesOf s).drop k = s[k] :: (bytesOf s).drop (k + 1) := by
  rw [List.drop_eq_getElem_cons (by rw [size_bytesOf]; exact h)]; rfl
theorem bytesOf_one (s : ByteArray) (k : Nat) (h : k < s.size) : bytesOf (s.extract k (k + 1)) = [s[k]] := by
  rw [bytesOf_extract, List.drop_take, drop_get s k h]
  rw [show k + 1 - k = 1 from by omega]; rfl
theorem spl_start (s : ByteArray) (h : 1 ≤ s.size) : SplI s 1 [] ⟨#[]⟩ := by
  refine ⟨by simp, by simp [bytesOf], fun _ => ?_, fun h' => by omega⟩
  simp [bytesOf]
theorem spl_letter {s : ByteArray} {k : Nat} {out : List ByteArray} {p : ByteArray} (h : SplI s k out p) (hk : k < s.size) (hne : s[k] ≠ 47) : SplI s (k + 1) out (p ++ s.extract k (k + 1)) := by
  refine ⟨h.1, ?_, fun _ => ?_, fun h' => by omega⟩
  · rw [bytesOf_append, bytesOf_one s k hk, List.mem_append]
    rintro (h' | h')
    · exact h.2.1 h'
    · exact hne (List.mem_singleton.1 h').symm
  · rw [h.2.2.1 (by omega), bytesOf_append, bytesOf_one s k hk, drop_get s k hk, List.append_assoc]; rfl
theorem spl_bound {s : ByteArray} {k : Nat} {out : List ByteArray} {p : ByteArray} (h : SplI s k out p) (hk : k ≤ s.size) (hb : ∀ h : k < s.size, s[k] = 47) :
    ∃ more, splitL 47 ((bytesOf s).drop 1) = out.map bytesOf ++ bytesOf p :: more ∧ (k < s.size → more = splitL 47 ((bytesOf s).drop (k + 1))) ∧ (k = s.size → more = []) := by
  rcases Nat.lt_or_ge k s.size with hlt | hge
  · refine ⟨splitL 47 ((bytesOf s).drop (k + 1)), ?_, fun _ => rfl, fun e => by omega⟩
    rw [h.2.2.1 hk, drop_get s k hlt, hb hlt, splitL_append _ h.2.1]
  · refine ⟨[], ?_, fun e => by omega, fun _ => rfl⟩
    rw [h.2.2.1 hk, List.drop_eq_nil_of_le (by rw [size_bytesOf]; exact hge), List.append_nil, splitL_none h.2.1]
theorem spl_push {s : ByteArray} {k : Nat} {out : List ByteArray} {p : ByteArray} (h : SplI s k out p) (hk : k ≤ s.size) (hb : ∀ h : k < s.size, s[k] = 47) (hp : bytesOf p ≠ []) : SplI s (k + 1) (out ++ [p]) ⟨#[]⟩ := by
  obtain ⟨more, h1, h2, h3⟩ := spl_bound h hk hb
  refine ⟨fun x hx => ?_, by simp [bytesOf], fun hk' => ?_, fun hk' => ?_⟩
  · rcases List.mem_append.1 hx with hx | hx
    · exact h.1 x hx
    · rw [List.mem_singleton.1 hx]; exact hp
  · rw [h1, h2 (by omega)]; simp [bytesOf]
  · rw [h1, h3 (by omega)]; simp
section
variable {s : ByteArray} {k : Nat} {out : List ByteArray} {p : ByteArray}
theorem readP_long (hpre : Lib.hasPrefix (bytesOf s) [47] = true) (hd : (bytesOf s).drop 1 ≠ []) : readP (bytesOf s) = readN (splitL 47 ((bytesOf s).drop 1)) := by
  rw [readP, if_pos hpre, readR, if_neg hd]
theorem spl_empty (hpre : Lib.hasPrefix (bytesOf s) [47] = true) (hd : (bytesOf s).drop 1 ≠ []) (h : SplI s k out p) (hk : k ≤ s.size) (hb : ∀ h : k < s.size, s[k] = 47) (hp : bytesOf p = []) : readP (bytesOf s) = (170, []) := by
  obtain ⟨more, h1, _⟩ := spl_bound h hk hb
  rw [readP_long hpre hd, h1, hp, readN, if_pos (by simp)]
theorem spl_many (hpre : Lib.hasPrefix (bytesOf s) [47] = true) (hd : (bytesOf s).drop 1 ≠ []) (h : SplI s k out p) (hk : k ≤ s.size) (hb : ∀ h : k < s.size, s[k] = 47) (ho : out.length = 16) : readP (bytesOf s) = (170, []) := by
  obtain ⟨more, h1, _⟩ := spl_bound h hk hb
  rw [readP_long hpre hd, h1, readN]
  have : 16 < (out.map bytesOf ++ bytesOf p :: more).length := by simp; omega
  rw [if_pos this]
  split <;> rfl
theorem spl_end (hpre : Lib.hasPrefix (bytesOf s) [47] = true) (hd : (bytesOf s).drop 1 ≠ []) (h : SplI s k out p) (hk : s.size < k) (ho : out.length ≤ 16) : readP (bytesOf s) = if out.all rightS then (0, out.map bytesOf) else (160, []) := by
  rw [readP_long hpre hd, h.2.2.2 hk, readN]
  have h1 : (out.map bytesOf).any List.isEmpty = false := by
    rw [List.any_eq_false]
    intro x hx
    obtain ⟨y, hy, rfl⟩ := List.mem_map.1 hx
    rw [List.isEmpty_iff]; exact h.1 y hy
  have h2 : (out.map bytesOf).all rightB = out.all rightS := by rw [List.all_map]; rfl
  rw [h1, if_neg (by simp), if_neg (by simp; omega), h2]
end
/-- What is owned may be read. -/
theorem row_of_owns {w : World} {base : Nat} {e : TypeId} {v : Value} {n : Nat} {xs : List Value} (h : w.ownsRow base e 1 v n xs) :
    ∃ A c, v = .slice A n c ∧ n ≤ c ∧ c ≤ maxLen ∧ RowAt w A xs ∧ (∀ ad, A = some ad → base ≤ ad.block) ∧ xs.length = n := by
  have hlt := h.lt
  have hcells := fun g hg => h.cells (g := g) hg
  obtain ⟨hl, h⟩ := h
  rw [Nat.mul_one] at hl
  rcases h with ⟨rfl, rfl⟩ | ⟨g, cap, cur, rfl, hg, hh, hn, hc, _, _⟩
  · exact ⟨none, 0, rfl, Nat.le_refl _, by simp [maxLen], (fun hp => by omega), (fun _ e => by cases e), hl⟩
  · refine ⟨_, cap, rfl, hn, hc, fun _ => ⟨g, 0, rfl, (hlt g rfl).2, fun k u hu => ?_⟩, fun ad e => by cases e; exact hg, hl⟩
    have h1 := hcells g rfl k u hu
    have e : ((⟨g, 0, none⟩ : Addr).add k) = ⟨g, 0 + k, none⟩ := by
      unfold Addr.add
      split <;> simp_all
    rwa [e] at h1
theorem ownsRow_below {w w' : World} {base : Nat} {e : TypeId} {size : Nat} {v : Value} {n : Nat} {xs : List Value} (h : w.ownsRow base e size v n xs) (hb : Below w.heap.size w w') : w'.ownsRow base e size v n xs := by
  obtain ⟨hl, h⟩ := h
  refine ⟨hl, ?_⟩
  rcases h with h | ⟨g, cap, cur, e1, hg, hh, rest⟩
  · exact .inl h
  · exact .inr ⟨g, cap, cur, e1, hg, (hb.block g (Array.getElem?_eq_some_iff.1 hh).1).trans hh, rest⟩

theorem Tryz.infoString : (Tryz.prog.info? 9).map (fun i => (i.zero, i.size, i.bytes)) = some (some (.string ⟨#[]⟩), 1, 16) := by kernel_rfl
theorem Tryz.underlyingStrings : Tryz.prog.underlying 24 = some (.slice 9) := by kernel_rfl

set_option maxRecDepth 100000 in
set_option maxHeartbeats 2000000 in
theorem refsplit_any (s : ByteArray) (w : World) (hs : s.size < 4294967281) :
    Calls Tryz.prog 35 #[.string s] w (SplitPPost s w) := by
  by_cases h1 : bytesOf s = [47]
  · have HF : Hid (readP (bytesOf s) = (0, [])) := by rw [Hid, h1]; rfl
    have h1' : (s.toList == [47]) = true := by rw [ByteArray.toList_eq]; simpa [bytesOf] using h1
    clear h1
    go_enter Tryz.func35, Tryz.ntmps35
    go_wp2_with fail
    go_ret2
    exact ⟨.slice none 0 0, by rw [HF.out]; rfl, by rw [HF.out]; exact pathAt_nil _, Below.refl _ _, fresh_nil _ _ _⟩
  · have h1' : (s.toList == [47]) = false := by rw [ByteArray.toList_eq]; simpa [bytesOf] using h1
    by_cases h2 : bytesOf s = []
    · have HF : Hid (readP (bytesOf s) = (170, [])) := by rw [Hid, h2]; rfl
      have h2' : (s.toList == []) = true := by rw [ByteArray.toList_eq]; simpa [bytesOf] using h2
      clear h1 h2
      go_enter Tryz.func35, Tryz.ntmps35
      go_wp2_with fail
      go_ret2
      exact ⟨.slice none 0 0, by rw [HF.out]; rfl, by rw [HF.out]; exact pathAt_nil _, Below.refl _ _, fresh_nil _ _ _⟩
    · have h2' : (s.toList == []) = false := by rw [ByteArray.toList_eq]; simpa [bytesOf] using h2
      have hs0 : 0 < s.size := by
        rw [← size_bytesOf]; exact List.length_pos_iff.2 h2
      have hcons : bytesOf s = s[0] :: (bytesOf s).drop 1 := by
        have := drop_get s 0 hs0
        simpa using this
      by_cases h3 : s[0] = 47
      · have HPRE : Hid (Lib.hasPrefix (bytesOf s) [47] = true) := by rw [Hid, hcons, h3]; simp [Lib.hasPrefix]
        have HD : Hid ((bytesOf s).drop 1 ≠ []) := fun e => by rw [e, h3] at hcons; exact h1 hcons
        have h3' : ((s[0].toNat : Int) != 47) = false := by rw [h3]; rfl
        have HST := Lib.hid (spl_start s hs0)
        clear h1 h2 hcons h3
        obtain ⟨i0, hi, hz0, hz1, hz2⟩ := info_parts Tryz.infoString
        go_enter Tryz.func35, Tryz.ntmps35
        go_wp2_with fail
        go_loopw [4, 5, 6] (fun v p i wr => ∃ (k : Nat) (out : List ByteArray) (q : ByteArray), i = .int .i64 k ∧ p = .string q ∧ 1 ≤ k ∧ k ≤ s.size + 1 ∧ q.size ≤ k ∧ out.length ≤ 16 ∧ wr.ownsRow w.heap.size 9 1 v out.length (out.map .string) ∧ Below w.heap.size w wr ∧ Hid (SplI s k out q)) (fun _ _ i _ => s.size + 1 - (intOf i).toNat)
        case atStart => exact ⟨1, [], ⟨#[]⟩, rfl, rfl, Nat.le_refl _, by omega, Nat.zero_le _, Nat.zero_le _, World.ownsRow_nil _ _ _ _, Below.refl _ _, HST.out⟩
        case round =>
          obtain ⟨k, out, q, rfl, rfl, hk1, hk, hq, hol, hown, hb, HI⟩ := hrel
          have HB := Lib.hid hb
          have hsz := hb.size
          clear hb
          by_cases hks : k ≤ s.size
          · have hcase : (∃ h : k < s.size, s[k] ≠ 47) ∨ (∃ h : k < s.size, s[k] = 47) ∨ k = s.size := by
              rcases Nat.lt_or_ge k s.size with h | h
              · by_cases e : s[k] = 47
                · exact .inr (.inl ⟨h, e⟩)
                · exact .inl ⟨h, e⟩
              · exact .inr (.inr (by omega))
            rcases hcase with ⟨hlt, hne⟩ | hbd
            · have HL := Lib.hid (spl_letter HI.out hlt hne)
              have hc' : ((s[k].toNat : Int) != 47) = true := by
                rw [bne_iff_ne]; intro e; exact hne (UInt8.toNat_inj.1 (by have : (47 : UInt8).toNat = 47 := rfl; omega))
              have hex : (s.extract k (k + 1)).size = 1 := by
                rw [← size_bytesOf, bytesOf_one s k hlt]; rfl
              have HOWN := Lib.hid hown
              clear hown hne
              go_wp2_with fail
              exact ⟨⟨k + 1, out, _, by go_num, rfl, by omega, by omega, by rw [ByteArray.size_append]; omega, hol, HOWN.out, HB.out, HL.out⟩, by simp [intOf]; omega⟩
            · have HBD : Hid (∀ h : k < s.size, s[k] = 47) := fun h => by
                rcases hbd with ⟨_, e⟩ | e
                · exact e
                · omega
              have hbd' : (∃ h : k < s.size, ((s[k].toNat : Int) != 47) = false) ∨ k = s.size := by
                rcases hbd with ⟨h, e⟩ | e
                · exact .inl ⟨h, by rw [e]; rfl⟩
                · exact .inr e
              clear hbd
              by_cases hq0 : bytesOf q = []
              · have HF := Lib.hid (spl_empty HPRE.out HD.out HI.out hks HBD.out hq0)
                have hq0' : (q.toList == []) = true := by rw [ByteArray.toList_eq]; simpa [bytesOf] using hq0
                clear hq0 hown
                rcases hbd' with ⟨hlt, hc'⟩ | hke
                all_goals
                  go_wp2_with fail
                  go_ret2
                  exact ⟨.slice none 0 0, by rw [HF.out]; rfl, by rw [HF.out]; exact pathAt_nil _, HB.out, fresh_nil _ _ _⟩
              · have hq0' : (q.toList == []) = false := by rw [ByteArray.toList_eq]; simpa [bytesOf] using hq0
                by_cases h16 : out.length = 16
                · have HF := Lib.hid (spl_many HPRE.out HD.out HI.out hks HBD.out h16)
                  obtain ⟨A, c, rfl, hnc, hcm, _⟩ := row_of_owns hown
                  rw [h16] at hnc ⊢
                  clear hq0 hown h16
                  rcases hbd' with ⟨hlt, hc'⟩ | hke
                  all_goals
                    go_wp2_with fail
                    go_ret2
                    exact ⟨.slice none 0 0, by rw [HF.out]; rfl, by rw [HF.out]; exact pathAt_nil _, HB.out, fresh_nil _ _ _⟩
                · have HP := Lib.hid (spl_push HI.out hks HBD.out hq0)
                  clear hq0
                  obtain ⟨A, c, rfl, hnc, hcm, _⟩ := row_of_owns hown
                  obtain ⟨n, HN⟩ : ∃ n : Nat, Hid (out.length = n) := ⟨_, rfl⟩
                  rw [HN.out] at hown hnc hol h16 ⊢
                  have h16' : ((n : Int) == 16) = false := by rw [beq_eq_false_iff_ne]; omega
                  have hn15 : n + 1 ≤ 16 := by omega
                  have HOWN := Lib.hid hown
                  have HLT := Lib.hid hown.lt
                  clear hown h16
                  rcases hbd' with ⟨hlt, hc'⟩ | hke
                  all_goals
                    go_wp2_with (at_builtin; refine wpList_append_own _ rfl _ _ 24 rfl w.heap.size 9 i0 (.string ⟨#[]⟩) 1 16 Tryz.underlyingStrings hi hz0 hz1 hz2 rfl (by decide) _ _ _ rfl (HOWN.out.alloc _) ⟨wr.heap.size, 0, none⟩ 1 1 [.string q] rfl rfl ?c1 ?c2 ?c3 ?c4 ?c5 ?_)
                    case c1 =>
                      intro j u hj
                      match j, hj with
                      | 0, hj => simp at hj; subst hj; simp [Addr.add]
                    case c2 => intro u hu; simp at hu; subst hu; rfl
                    case c3 => unfold maxLen; omega
                    case c4 => omega
                    case c5 => simp; omega
                    intro v' w1 hown' hgrow _
                    have HB1 : Hid (Below w.heap.size w w1) := (HB.out.alloc hsz _).grown hgrow (by simp; omega) (fun r e => (HLT.out r e).1)
                    have HO1 := Lib.hid hown'
                    clear hown' hgrow
                    go_wp2_with fail
                    exact ⟨⟨k + 1, out ++ [q], ⟨#[]⟩, by go_num, rfl, by omega, by omega, Nat.zero_le _, by rw [List.length_append, HN.out]; simp; omega, by rw [List.length_append, HN.out, List.map_append]; exact HO1.out, HB1.out, HP.out⟩, by simp [intOf]; omega⟩
          · obtain ⟨A, c, rfl, hnc, hcm, hrow, hfr, hlen⟩ := row_of_owns hown
            obtain ⟨n, HN⟩ : ∃ n : Nat, Hid (out.length = n) := ⟨_, rfl⟩
            have HEND := Lib.hid (spl_end HPRE.out HD.out HI.out (by omega) hol)
            have hn0 : 0 < n := by
              rw [← HN.out]
              have h := HI.out.2.2.2 (by omega)
              rcases Nat.eq_zero_or_pos out.length with e | e
              · rw [List.eq_nil_of_length_eq_zero e] at h
                exact absurd h (splitL_ne _ _)
              · exact e
            obtain ⟨b, off, rfl, hbx⟩ := hrow (by rw [List.length_map, HN.out]; exact hn0)
            have HROW := Lib.hid hrow
            have HFR := Lib.hid hfr
            rw [HN.out] at hnc hol ⊢
            clear hbx hrow hfr hown hlen
            go_wp2_with fail
            go_loopw [7] (fun i wr2 => ∃ j : Nat, j ≤ n ∧ i = .int .i64 j ∧ wr2 = wr ∧ Hid ((out.take j).all rightS = true)) (fun i _ => n - (intOf i).toNat)
            case atStart => exact ⟨0, Nat.zero_le _, rfl, rfl, rfl⟩
            case round =>
              obtain ⟨j, hj, rfl, rfl, HP⟩ := hrel
              by_cases hlt : j < n
              · have hj' : j < out.length := by rw [HN.out]; exact hlt
                obtain ⟨b', off', e', hb', hc⟩ := HROW.out.get (k := j) (u := .string out[j]) (by rw [List.getElem?_map, List.getElem?_eq_getElem hj']; rfl)
                cases e'
                have HAL : Hid ((out.take (j + 1)).all rightS = ((out.take j).all rightS && rightS out[j])) := by
                  rw [Hid, List.take_succ_eq_append_getElem hj', List.all_append]; simp
                have HM : Hid (out.all rightS = true → rightS out[j] = true) := fun h => List.all_eq_true.1 h _ (List.getElem_mem hj')
                have hxs : out[j].size ≤ maxLen := by
                  have hm : bytesOf out[j] ∈ splitL 47 ((bytesOf s).drop 1) := by rw [HI.out.2.2.2 (by omega)]; exact List.mem_map_of_mem (List.getElem_mem hj')
                  have := splitL_length _ hm
                  rw [size_bytesOf, List.length_drop, size_bytesOf] at this
                  unfold maxLen; omega
                generalize out[j] = x at hc HAL HM hxs
                have HXS := Lib.hid hxs
                clear hxs
                cases hr : rightS x
                · have HF : Hid (readP (bytesOf s) = (160, [])) := by
                    have : out.all rightS = false := by rw [Bool.eq_false_iff]; intro h; rw [HM.out h] at hr; cases hr
                    rw [Hid, HEND.out, this, if_neg (by decide)]
                  have HRT : Hid (rightB x.data.toList = false) := hr
                  clear hr
                  go_wp2_with (go_at_call 56; refine (refRight_any _ _ HXS.out).mono ?_; rintro e w' ⟨rfl, rfl⟩; rw [HRT.out])
                  go_ret2
                  exact ⟨.slice none 0 0, by rw [HF.out]; rfl, by rw [HF.out]; exact pathAt_nil _, HB.out, fresh_nil _ _ _⟩
                · have HRT : Hid (rightB x.data.toList = true) := hr
                  clear hr
                  go_wp2_with (go_at_call 56; refine (refRight_any _ _ HXS.out).mono ?_; rintro e w' ⟨rfl, rfl⟩; rw [HRT.out])
                  go_roundw
                  case rel => exact ⟨j + 1, by omega, by go_num, by first | rfl | trivial, by rw [Hid, HAL.out, HP.out]; exact HRT.out⟩
                  case measure => simp [intOf]; omega
              · have HF : Hid (readP (bytesOf s) = (0, out.map bytesOf)) := by
                  have h := HP.out
                  rw [List.take_of_length_le (by rw [HN.out]; omega)] at h
                  rw [Hid, HEND.out, h, if_pos rfl]
                go_wp2_with fail
                go_ret2
                refine ⟨.slice (some ⟨b, off, none⟩) n c, by rw [HF.out]; rfl, ?_, HB.out, fun A' n' c' e ad ha => by cases e; cases ha; exact HFR.out _ rfl⟩
                rw [HF.out]
                refine ⟨_, c, by rw [List.length_map, HN.out], by rw [List.length_map, HN.out]; exact hnc, hcm, ?_⟩
                rw [List.map_map]
                exact HROW.out
      · have HF : Hid (readP (bytesOf s) = (170, [])) := by
          rw [Hid, readP, if_neg]
          rw [hcons]; simp [Lib.hasPrefix]; exact fun e => h3 e.symm
        have h3' : ((s[0].toNat : Int) != 47) = true := by
          rw [bne_iff_ne]; intro e; exact h3 (UInt8.toNat_inj.1 (by have : (47 : UInt8).toNat = 47 := rfl; omega))
        clear h1 h2 hcons h3
        go_enter Tryz.func35, Tryz.ntmps35
        go_wp2_with fail
        go_ret2
        exact ⟨.slice none 0 0, by rw [HF.out]; rfl, by rw [HF.out]; exact pathAt_nil _, Below.refl _ _, fresh_nil _ _ _⟩
end Go.Proofs.YtibpagmpdgflmaaGreatDoor
