/- The contracts of path.right and path.read. The contracts of path.Split, Parent, Join, Within. Conditions: none. -/
import Derived.Test.YtibpagmpdgflmaaGreatDoorZC1
import Derived.Test.YtibpagmpdgflmaaGreatDoorZC2
import Derived.Test.YtibpagmpdgflmaaGreatDoorS1
namespace Go.Proofs.YtibpagmpdgflmaaGreatDoor
open Go.RowKit

/-- right's answer. -/
def rightN (xs : List ByteArray) : Int := if 16 < xs.length then 170 else errB (xs.all rightS)
theorem rightN_long {xs : List ByteArray} (h : 16 < xs.length) : rightN xs = 170 := if_pos h
theorem rightN_fine {xs : List ByteArray} (h : ¬ 16 < xs.length) : rightN xs = errB (xs.all rightS) := if_neg h

set_option maxRecDepth 100000 in
set_option maxHeartbeats 1000000 in
theorem pright_any (xs : List ByteArray) (A : Option Addr) (n c : Nat) (w : World) (hn : xs.length = n) (hm : n ≤ maxLen) (hs : ∀ s ∈ xs, s.size ≤ maxLen) (h : RowAt w A (xs.map .string)) :
    Calls Tryz.prog 201 #[.agg #[.slice A n c], .func (.func 202) #[] #[]] w fun e w' => e = .returned (.int .i64 (rightN xs)) ∧ Below w.heap.size w w' := by
  have HC := fun W (h : RowAt W A (xs.map .string)) => Lib.hid (first_any xs A n c W hn hm hs h)
  have HH := Lib.hid HC
  have HR := Lib.hid h
  unfold maxLen at hm
  by_cases hl : 16 < n
  · have HE : Hid (rightN xs = 170) := rightN_long (by rw [hn]; exact hl)
    clear hn hs h HC
    go_enter Tryz.func201, Tryz.ntmps201
    go_wp2_with fail
    go_ret
    exact ⟨by rw [HE.out]; rfl, (Below.refl _ _).alloc (Nat.le_refl _) _⟩
  · have HE : Hid (rightN xs = errB (xs.all rightS)) := rightN_fine (by rw [hn]; exact hl)
    clear hn hs h HC
    go_enter Tryz.func201, Tryz.ntmps201
    go_wp2_with fail
    refine (HH.out _ (HR.out.alloc _)).out.mono ?_
    rintro e w' ⟨rfl, hb⟩
    go_wp2_with fail
    go_ret
    exact ⟨by rw [HE.out]; rfl, below_trans ((Below.refl _ _).alloc (Nat.le_refl _) _) hb⟩

/-- A path's names. -/
def readN (l : List (List UInt8)) : Int × List (List UInt8) :=
  if l.any List.isEmpty then (170, []) else if 16 < l.length then (170, []) else if l.all rightB then (0, l) else (160, [])
def readR (rest : List UInt8) : Int × List (List UInt8) := if rest = [] then (0, []) else readN (splitL 47 rest)
def readP (s : List UInt8) : Int × List (List UInt8) := if Lib.hasPrefix s [47] then readR (s.drop 1) else (170, [])

/-- A path as it lies in memory. -/
def PathAt (w : World) (v : Value) (l : List (List UInt8)) : Prop := ∃ A c, v = .slice A l.length c ∧ l.length ≤ c ∧ c ≤ maxLen ∧ RowAt w A (l.map fun x => .string (ofBytes x))
/-- A slice's cells lie in new memory. -/
def Fresh (B : Nat) (v : Value) : Prop := ∀ A n c, v = .slice A n c → ∀ ad, A = some ad → B ≤ ad.block
theorem fresh_nil (B n c : Nat) : Fresh B (.slice none n c) := fun _ _ _ e ad ha => by cases e; cases ha
theorem fresh_some {B : Nat} {ad : Addr} {n c : Nat} (h : B ≤ ad.block) : Fresh B (.slice (some ad) n c) := fun _ _ _ e ad' ha => by cases e; cases ha; exact h
def ReadPost (s : ByteArray) (w : World) (e : Ending) (w' : World) : Prop :=
  ∃ v, e = .returned (.tuple #[.agg #[v], .int .i64 (readP (bytesOf s)).1]) ∧ PathAt w' v (readP (bytesOf s)).2 ∧ Below w.heap.size w w' ∧ Fresh w.heap.size v

theorem rowAt_setCell {w : World} {A : Option Addr} {cs : List Value} (h : RowAt w A cs) {p : Addr} (hp : ∀ b off, A = some ⟨b, off, none⟩ → b ≠ p.block) (v : Value) : RowAt (w.setCell p v) A cs := fun hn => by
  obtain ⟨b, off, e, hb, hc⟩ := h hn
  refine ⟨b, off, e, by simpa [World.setCell] using hb, fun k u hu => ?_⟩
  rw [World.cell?_setCell_other _ _ _ _ (fun e' => hp b off e (by rw [e']))]
  exact hc k u hu
theorem pathAt_nil (w : World) : PathAt w (.slice none 0 0) [] := ⟨none, 0, rfl, Nat.le_refl _, by simp [maxLen], RowAt.nil⟩

set_option maxRecDepth 100000 in
set_option maxHeartbeats 1000000 in
theorem read_any (s : ByteArray) (w : World) (hs : s.size < 4294967281) :
    Calls Tryz.prog 176 #[.string s] w (ReadPost s w) := by
  cases hp : Lib.hasPrefix s.data.toList [47]
  · have HF : Hid (readP (bytesOf s) = (170, [])) := by simp [Hid, readP, bytesOf, hp]
    have hcut := fun W => Tryz.strings_CutPrefix s ⟨#[47]⟩ W
    simp only [hp, Lib.trimPrefix] at hcut
    have HC := Lib.hid hcut
    clear hcut hp
    go_enter Tryz.func176, Tryz.ntmps176
    go_wp2_with fail
    refine wp_scope_fwd 1 ?_
    go_wp2_with go_step3
    refine (HC.out _).mono ?_
    rintro e w' ⟨rfl, rfl⟩
    go_wp2_with go_step3
    refine fwd_goto _ rfl ?_
    go_wp2_with go_step3
    rw [fwd_ret]
    refine bodyPost_ret (v := .tuple #[.agg #[.slice none 0 0], .int .i64 170]) (by simp [results, Tryz.results176, go_sem]) rfl ?_
    exact ⟨_, by rw [HF.out], by rw [HF.out]; exact pathAt_nil _, (Below.refl _ _).alloc (Nat.le_refl _) _, fresh_nil _ _ _⟩
  · have hF : Hid (readP (bytesOf s) = readR ((bytesOf s).drop 1)) := by simp [Hid, readP, bytesOf, hp]
    have hcut := fun W => Tryz.strings_CutPrefix s ⟨#[47]⟩ W
    simp only [hp, Lib.trimPrefix] at hcut
    have hr : Hid (bytesOf (⟨(List.drop 1 s.data.toList).toArray⟩ : ByteArray) = (bytesOf s).drop 1) := rfl
    have hsz : (⟨(List.drop 1 s.data.toList).toArray⟩ : ByteArray).size ≤ s.size := by
      show (List.drop 1 s.data.toList).length ≤ s.data.toList.length
      rw [List.length_drop]; omega
    simp only [if_true, List.length_cons, List.length_nil, Nat.zero_add] at hcut
    generalize (⟨(List.drop 1 s.data.toList).toArray⟩ : ByteArray) = r at hcut hr hsz
    have HC := Lib.hid hcut
    clear hcut hp
    cases he : r.toList.isEmpty
    · have HF : Hid (readP (bytesOf s) = readN (splitL 47 (bytesOf r))) := by
        rw [Hid, hF.out, readR, ← hr.out, if_neg]
        intro e; rw [ByteArray.toList_eq] at he
        unfold bytesOf at e; rw [e] at he; simp at he
      go_enter Tryz.func176, Tryz.ntmps176
      go_wp2_with fail
      refine wp_scope_fwd 1 ?_
      go_wp2_with go_step3
      refine (HC.out _).mono ?_
      rintro e w' ⟨rfl, rfl⟩
      go_wp2_with go_step3
      refine (split_any r 47 _ (by omega)).mono ?_
      rintro e w' ⟨xs, n, rfl, hn, hnl, hx, rfl⟩
      have hrow := rowAt_new (w.alloc (.cells #[.slice (some ⟨w.heap.size + 1, 0, none⟩) n n] 222)) (xs.map Value.string) 9
      rw [World.size_alloc] at hrow
      have hbel : Below w.heap.size w ((w.alloc (.cells #[.slice (some ⟨w.heap.size + 1, 0, none⟩) n n] 222)).alloc (.cells (xs.map Value.string).toArray 9)) :=
        ((Below.refl _ _).alloc (Nat.le_refl _) _).alloc (by simp) _
      have HROW := Lib.hid hrow
      have hszx : Hid (∀ x ∈ xs, x.size ≤ maxLen) := fun x hxm => by
        have hm : bytesOf x ∈ splitL 47 (bytesOf r) := by rw [← hx.out]; exact List.mem_map_of_mem hxm
        have := splitL_length _ hm
        rw [size_bytesOf, size_bytesOf] at this
        unfold maxLen; omega
      clear hrow
      have hany : Hid (xs.any (eqS ⟨#[]⟩) = (splitL 47 (bytesOf r)).any List.isEmpty) := by
        rw [Hid, ← hx.out, List.any_map]
        congr 1
        funext x
        rw [Bool.eq_iff_iff, eqS_iff, Function.comp, List.isEmpty_iff]
        exact ⟨fun e => by rw [← e]; rfl, fun e => (bytesOf_inj (by rw [e]; rfl)).symm⟩
      have hlenx : Hid ((splitL 47 (bytesOf r)).length = n) := by rw [Hid, ← hx.out, List.length_map, hn.out]
      cases hce : xs.any (eqS ⟨#[]⟩)
      all_goals
        have HCE := Lib.hid hce
        clear hce
        go_wp2_with (first | go_step3 | (go_at_call 200; refine (contains_any ⟨#[]⟩ xs _ n _ _ hn.out (by unfold maxLen; omega) HROW.out).mono ?_; rintro e w' ⟨rfl, rfl⟩; rw [HCE.out]))
      · have hq : (Hid (rightN xs = 170) ∧ Hid (readP (bytesOf s) = (170, []))) ∨ (Hid (rightN xs = 160) ∧ Hid (readP (bytesOf s) = (160, []))) ∨ (Hid (rightN xs = 0) ∧ Hid (readP (bytesOf s) = (0, splitL 47 (bytesOf r)))) := by
          have e1 : (splitL 47 (bytesOf r)).any List.isEmpty = false := by rw [← hany.out, HCE.out]
          have e2 : readP (bytesOf s) = if 16 < n then (170, []) else if (splitL 47 (bytesOf r)).all rightB then (0, splitL 47 (bytesOf r)) else (160, []) := by
            rw [HF.out, readN, e1, hlenx.out]; simp
          have e3 : rightN xs = if 16 < n then 170 else errB ((splitL 47 (bytesOf r)).all rightB) := by
            rw [rightN, hn.out, ← hx.out, List.all_map]; rfl
          unfold Hid
          rw [e2, e3]
          by_cases h16 : 16 < n
          · exact .inl ⟨if_pos h16, if_pos h16⟩
          · rw [if_neg h16, if_neg h16]
            cases hb : (splitL 47 (bytesOf r)).all rightB
            · exact .inr (.inl ⟨rfl, rfl⟩)
            · exact .inr (.inr ⟨rfl, rfl⟩)
        refine (pright_any xs _ n _ _ hn.out (by unfold maxLen; omega) hszx.out HROW.out).mono ?_
        rintro e w' ⟨rfl, hb⟩
        obtain ⟨hc, hf⟩ := cells_after hb
        have hz : w.heap.size + 1 < w'.heap.size := by have := hb.size; simp at this; omega
        have hc0 : w'.cell? ⟨w.heap.size, 0, none⟩ = some (.slice (some ⟨w.heap.size + 1, 0, none⟩) n n) := by
          rw [hc _ _ (by simp; omega)]; simp
        have hcs : ∀ v, (w'.setCell ⟨w.heap.size, 0, none⟩ v).cell? ⟨w.heap.size, 0, none⟩ = some v := fun v => World.cell?_setCell_same' _ _ _ (by rw [hc0]; rfl)
        have HCS := Lib.hid hcs
        have HRW := HROW.out.below hb
        have HRW' := Lib.hid HRW
        clear hcs HRW
        rcases hq with ⟨hq, hr'⟩ | ⟨hq, hr'⟩ | ⟨hq, hr'⟩
        all_goals
          rw [hq.out]
          go_wp2_with go_step3
          try rw [fwd_ret]
        · refine bodyPost_ret (v := .tuple #[.agg #[.slice none 0 0], .int .i64 170]) (by simp [results, Tryz.results176, go_sem, HCS.out]) rfl ?_
          exact ⟨_, by rw [hr'.out], by rw [hr'.out]; exact pathAt_nil _, (below_trans hbel hb).setCell (p := ⟨w.heap.size, 0, none⟩) (Nat.le_refl _) _, fresh_nil _ _ _⟩
        · refine bodyPost_ret (v := .tuple #[.agg #[.slice none 0 0], .int .i64 160]) (by simp [results, Tryz.results176, go_sem, HCS.out]) rfl ?_
          exact ⟨_, by rw [hr'.out], by rw [hr'.out]; exact pathAt_nil _, (below_trans hbel hb).setCell (p := ⟨w.heap.size, 0, none⟩) (Nat.le_refl _) _, fresh_nil _ _ _⟩
        · refine bodyPost_ret (v := .tuple #[.agg #[.slice (some ⟨w.heap.size + 1, 0, none⟩) n n], .int .i64 0]) (by simp [results, Tryz.results176, go_sem, HCS.out]) rfl ?_
          refine ⟨_, by rw [hr'.out], ?_, (below_trans hbel hb).setCell (p := ⟨w.heap.size, 0, none⟩) (Nat.le_refl _) _, fresh_some (by simp)⟩
          rw [hr'.out]
          refine ⟨_, n, by rw [hlenx.out], by rw [hlenx.out]; omega, by unfold maxLen; omega, ?_⟩
          have e : (splitL 47 (bytesOf r)).map (fun x => Value.string (ofBytes x)) = xs.map Value.string := by
            rw [← hx.out, List.map_map]; rfl
          rw [e]
          exact rowAt_setCell HRW'.out (fun b off e => by cases e; simp) _
      · have HF' : Hid (readP (bytesOf s) = (170, [])) := by
          rw [Hid, HF.out, readN, ← hany.out, HCE.out]; rfl
        refine fwd_goto _ rfl ?_
        go_wp2_with go_step3
        rw [fwd_ret]
        refine bodyPost_ret (v := .tuple #[.agg #[.slice none 0 0], .int .i64 170]) (by simp [results, Tryz.results176, go_sem]) rfl ?_
        exact ⟨_, by rw [HF'.out], by rw [HF'.out]; exact pathAt_nil _, ((Below.refl _ _).alloc (Nat.le_refl _) _).alloc (by simp) _, fresh_nil _ _ _⟩
    · have HF : Hid (readP (bytesOf s) = (0, [])) := by
        rw [Hid, hF.out, readR, ← hr.out, if_pos]
        rw [ByteArray.toList_eq] at he
        unfold bytesOf; exact List.isEmpty_iff.1 he
      go_enter Tryz.func176, Tryz.ntmps176
      go_wp2_with fail
      refine wp_scope_fwd 1 ?_
      go_wp2_with go_step3
      refine (HC.out _).mono ?_
      rintro e w' ⟨rfl, rfl⟩
      go_wp2_with go_step3
      rw [fwd_ret]
      refine bodyPost_ret (v := .tuple #[.agg #[.slice none 0 0], .int .i64 0]) (by simp [results, Tryz.results176, go_sem]) rfl ?_
      exact ⟨_, by rw [HF.out], by rw [HF.out]; exact pathAt_nil _, (Below.refl _ _).alloc (Nat.le_refl _) _, fresh_nil _ _ _⟩
end Go.Proofs.YtibpagmpdgflmaaGreatDoor

namespace Go.Proofs.YtibpagmpdgflmaaGreatDoor
open Go.RowKit

def SplitPPost (s : ByteArray) (w : World) (e : Ending) (w' : World) : Prop :=
  ∃ v, e = .returned (.tuple #[v, .int .i64 (readP (bytesOf s)).1]) ∧ PathAt w' v (readP (bytesOf s)).2 ∧ Below w.heap.size w w' ∧ Fresh w.heap.size v

theorem PathAt.below {w w' : World} {v : Value} {l : List (List UInt8)} (h : PathAt w v l) (hb : Below w.heap.size w w') : PathAt w' v l := by
  obtain ⟨A, c, h1, h2, h3, h4⟩ := h
  exact ⟨A, c, h1, h2, h3, h4.below hb⟩
theorem PathAt.alloc {w : World} {v : Value} {l : List (List UInt8)} (h : PathAt w v l) (o : Obj) : PathAt (w.alloc o) v l := h.below ((Below.refl _ _).alloc (Nat.le_refl _) _)

set_option maxRecDepth 100000 in
set_option maxHeartbeats 1000000 in
theorem psplit_any (s : ByteArray) (w : World) (hs : s.size < 4294967281) :
    Calls Tryz.prog 175 #[.string s] w (SplitPPost s w) := by
  have HC := Lib.hid (fun W => read_any s W hs)
  go_enter Tryz.func175, Tryz.ntmps175
  go_wp2_with fail
  refine (HC.out _).mono ?_
  rintro e w' ⟨v, rfl, hp, hb, hfr⟩
  have HFR := Lib.hid hfr
  clear hfr
  obtain ⟨A, c, rfl, h1, h2, h3⟩ := id hp
  have HP := Lib.hid hp
  have H3 := Lib.hid h3
  clear hp h3
  generalize hl : readP (bytesOf s) = rp at *
  have HL := Lib.hid hl
  clear hl
  go_wp2_with fail
  go_ret2
  exact ⟨.slice A rp.2.length c, by rw [HL.out]; rfl, by rw [HL.out]; exact HP.out.alloc _, hb.alloc hb.size _, HFR.out⟩

theorem bytesOf_append (a b : ByteArray) : bytesOf (a ++ b) = bytesOf a ++ bytesOf b := by
  unfold bytesOf; simp
/-- The path of names. -/
def textP (xs : List (List UInt8)) : List UInt8 := 47 :: joinL 47 xs

theorem joinL_length (c : UInt8) : ∀ l : List (List UInt8), (∀ x ∈ l, x.length ≤ 40) → (joinL c l).length ≤ 41 * l.length
  | [], _ => by simp [joinL]
  | [x], h => by have := h x (by simp); simp [joinL]; omega
  | x :: y :: ys, h => by
    rw [joinL_cons _ _ (by simp), List.length_append, List.length_cons, List.length_cons]
    have h1 := h x (by simp)
    have h2 := joinL_length c (y :: ys) (fun z hz => h z (by simp [hz]))
    rw [List.length_cons] at h2 ⊢
    omega
/-- Names of a path. -/
def Fine (xs : List (List UInt8)) : Prop := xs.length ≤ 16 ∧ ∀ x ∈ xs, x.length ≤ 40

end Go.Proofs.YtibpagmpdgflmaaGreatDoor
