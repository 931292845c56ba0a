/- What the laws of paths call besides: num, fails, works. Conditions: none. -/
import Derived.Test.YtkhpdlaljepkjaaDoorD3
namespace Go.Proofs.YtkhpdlaljepkjaaDoor
open Go.RowKit Go.Shelf
attribute [local go_sem] Oper.semAt_some

theorem num_any (z : Int) (w : World) : Calls Tryd.prog 15 #[.int .i64 z] w fun e w' => e = .returned (.int .i64 z) ∧ w = w' := by
  go_enter Tryd.func15, Tryd.ntmps15
  go_wp2
  go_ret
  exact ⟨rfl, rfl⟩

set_option maxRecDepth 100000 in
theorem fails_any (s : ByteArray) (no : Int) (w : World) (hs : s.size < 4294967281) :
    Calls Tryd.prog 22 #[.string s, .int .i64 no] w fun e w' => e = .returned (.bool ((readP (bytesOf s)).1 == no)) ∧ Below w.heap.size w w' := by
  have HC := Lib.hid (fun W => psplit_any s W hs)
  unfold SplitPPost at HC
  generalize readP (bytesOf s) = rp at *
  obtain ⟨z, l⟩ := rp
  simp only at HC ⊢
  go_enter Tryd.func22, Tryd.ntmps22
  go_wp2_with fail
  refine (HC.out _).mono ?_
  rintro e w' ⟨v, rfl, ⟨A, c, rfl, h1, h2, h3⟩, hb, _⟩
  have H3 := Lib.hid h3
  have HB := Lib.hid hb
  clear h3 hb
  go_wp2_with (go_at_call 15; refine (num_any _ _).mono ?_; rintro e w2 ⟨rfl, rfl⟩)
  go_ret
  exact ⟨rfl, HB.out⟩

/-- What the loop of works counts. -/
def accN (pre : List (Nat × List UInt8)) : Int := pre.foldl (fun n x => 10 * n + x.1 + x.2.length) 0
def WorksI (W0 W3 : World) (Bn : Nat) (pre : List (Nat × List UInt8)) (Wx : World) : Prop :=
  Wx.cell? ⟨Bn, 0, none⟩ = some (.int .i64 (accN pre)) ∧ Wx.frozen? ⟨Bn, 0, none⟩ = false ∧ Below W0.heap.size W0 Wx ∧ W3.heap.size ≤ Wx.heap.size ∧ ∀ k, k < W3.heap.size → k ≠ Bn → Wx.heap[k]? = W3.heap[k]?
theorem worksI_own {W0 W3 : World} {Bn : Nat} (hB : Bn < W3.heap.size) (hW : W0.heap.size ≤ W3.heap.size) : OwnFrom W3.heap.size (WorksI W0 W3 Bn) := fun s X Y row hs hg hr => by
  have hsz := hs.2.2.2.1
  have hk : ∀ k, k < W3.heap.size → Y.heap[k]? = X.heap[k]? := fun k hk => hg.block k (by omega) (fun e => by have := (hr _ e.symm).1; omega)
  exact ⟨(World.cell?_of_block (hk _ hB)).trans hs.1, (World.frozen?_of_block (hk _ hB)).trans hs.2.1, hs.2.2.1.grown hg hs.2.2.1.size (fun k e => by have := (hr k e).1; omega), Nat.le_trans hsz hg.size, fun k h1 h2 => (hk k h1).trans (hs.2.2.2.2 k h1 h2)⟩

/-- The beginnings of /a/b. -/
def pAB : List (Nat × List UInt8) := [(0, [47]), (1, [47, 97]), (2, [47, 97, 47, 98])]
theorem pAB_eq : prefN (readP [47, 97, 47, 98]).2 = pAB := by kernel_rfl
theorem pAB_step {pre : List (Nat × List UInt8)} {x : Nat × List UInt8} (h : pre ++ [x] <+: pAB) :
    (accN pre = 0 ∧ x = (0, [47])) ∨ (accN pre = 1 ∧ x = (1, [47, 97])) ∨ (accN pre = 13 ∧ x = (2, [47, 97, 47, 98])) := by
  obtain ⟨t, ht⟩ := h
  unfold pAB at ht
  match pre, ht with
  | [], ht => simp at ht; exact .inl ⟨rfl, ht.1⟩
  | [a], ht => simp at ht; obtain ⟨rfl, rfl, _⟩ := ht; exact .inr (.inl ⟨rfl, rfl⟩)
  | [a, b], ht => simp at ht; obtain ⟨rfl, rfl, rfl, _⟩ := ht; exact .inr (.inr ⟨rfl, rfl⟩)
  | a :: b :: c :: d, ht => simp at ht

set_option maxRecDepth 100000 in
set_option maxHeartbeats 2000000 in
theorem works_any (w : World) : Calls Tryd.prog 9 #[] w fun e w' => e = .returned (.bool true) ∧ Below w.heap.size w w' := by
  have HS1 : Hid (∀ W, Calls Tryd.prog 10 #[.string ⟨#[47, 97, 47, 98]⟩] W fun e W' => ∃ A c, e = .returned (.tuple #[.slice A 2 c, .int .i64 0]) ∧ Hid (RowAt W' A [.string ⟨#[97]⟩, .string ⟨#[98]⟩]) ∧ Below W.heap.size W W') := fun W => by
    refine (psplit_any ⟨#[47, 97, 47, 98]⟩ W (by decide)).mono ?_
    rintro e W' ⟨v, rfl, ⟨A, c, rfl, _, _, h⟩, hb, _⟩
    exact ⟨A, c, rfl, h, hb⟩
  have HS2 : Hid (∀ W, Calls Tryd.prog 10 #[.string ⟨#[47]⟩] W fun e W' => ∃ A c, e = .returned (.tuple #[.slice A 0 c, .int .i64 0]) ∧ Below W.heap.size W W') := fun W => by
    refine (psplit_any ⟨#[47]⟩ W (by decide)).mono ?_
    rintro e W' ⟨v, rfl, ⟨A, c, rfl, _, _, h⟩, hb, _⟩
    exact ⟨A, c, rfl, hb⟩
  have HP1 : Hid (∀ W, Calls Tryd.prog 11 #[.string ⟨#[47, 97, 47, 98]⟩] W fun e W' => e = .returned (.tuple #[.string ⟨#[47, 97]⟩, .string ⟨#[98]⟩, .int .i64 0]) ∧ Below W.heap.size W W') := fun W =>
    (parent_any ⟨#[47, 97, 47, 98]⟩ W (by decide)).mono fun e W' h => h
  have HP2 : Hid (∀ W, Calls Tryd.prog 11 #[.string ⟨#[47]⟩] W fun e W' => e = .returned (.tuple #[.string ⟨#[]⟩, .string ⟨#[]⟩, .int .i64 5]) ∧ Below W.heap.size W W') := fun W =>
    (parent_any ⟨#[47]⟩ W (by decide)).mono fun e W' h => h
  have HW1 : Hid (∀ W, Calls Tryd.prog 18 #[.string ⟨#[47, 97, 47, 98]⟩, .string ⟨#[47, 97]⟩] W fun e W' => e = .returned (.tuple #[.bool true, .int .i64 0]) ∧ Below W.heap.size W W') := fun W =>
    (within_any ⟨#[47, 97, 47, 98]⟩ ⟨#[47, 97]⟩ W (by decide) (by decide)).mono fun e W' h => h
  have HW2 : Hid (∀ W, Calls Tryd.prog 18 #[.string ⟨#[47, 97]⟩, .string ⟨#[47, 97]⟩] W fun e W' => e = .returned (.tuple #[.bool false, .int .i64 0]) ∧ Below W.heap.size W W') := fun W =>
    (within_any ⟨#[47, 97]⟩ ⟨#[47, 97]⟩ W (by decide) (by decide)).mono fun e W' h => h
  refine calls_of_wp_marks Tryd.func9 rfl ?_
  simp only [Tryd.ntmps9, List.size_toArray, List.length_nil, Nat.reduceSub, Array.replicate_succ, Array.replicate_zero, List.push_toArray, List.append_toArray, List.nil_append, List.cons_append]
  go_wp2_with fail
  refine (HS1.out _).mono ?_
  rintro e w1 ⟨A, c, rfl, HA, hb1⟩
  go_wp2_with fail
  refine (HS2.out _).mono ?_
  rintro e w2 ⟨A2, c2, rfl, hb2⟩
  go_wp2_with fail
  refine (HP1.out _).mono ?_
  rintro e w3 ⟨rfl, hb3⟩
  go_wp2_with fail
  refine (HP2.out _).mono ?_
  rintro e w4 ⟨rfl, hb4⟩
  go_wp2_with fail
  refine (HW1.out _).mono ?_
  rintro e w5 ⟨rfl, hb5⟩
  go_wp2_with fail
  refine (HW2.out _).mono ?_
  rintro e w6 ⟨rfl, hb6⟩
  have hB6 : Below w.heap.size w w6 := below_trans (below_trans (below_trans (below_trans (below_trans hb1 hb2) hb3) hb4) hb5) hb6
  have HROW := Lib.hid (((((HA.out.below hb2).below hb3).below hb4).below hb5).below hb6)
  have HB6 := Lib.hid hB6
  clear hB6 hb1 hb2 hb3 hb4 hb5 hb6
  have hnil : ∀ (W : World) (a : Array Value), Sem.run Tryd.prog (binOp .eql 37 (.func (.func 26) #[] a) .nilFunc) W = .ok (.bool false) W := fun _ _ => by kernel_rfl
  go_wp2_with (go_at_call 17; refine (prefixes_any _ _).mono ?_; rintro e w' ⟨rfl, rfl⟩)
  have hsz3 : (((w6.alloc (.cells #[.int .i64 0] 3)).alloc (.cells #[.string ⟨#[47, 97, 47, 98]⟩] 9)).alloc (.cells #[.string ⟨#[47, 97, 47, 98]⟩] 9)).heap.size = w6.heap.size + 3 := by simp
  have hcs3 : (((w6.alloc (.cells #[.int .i64 0] 3)).alloc (.cells #[.string ⟨#[47, 97, 47, 98]⟩] 9)).alloc (.cells #[.string ⟨#[47, 97, 47, 98]⟩] 9)).cell? ⟨w6.heap.size + 2, 0, none⟩ = some (.string ⟨#[47, 97, 47, 98]⟩) := by
    have := World.cell?_alloc_new ((w6.alloc (.cells #[.int .i64 0] 3)).alloc (.cells #[.string ⟨#[47, 97, 47, 98]⟩] 9)) #[.string ⟨#[47, 97, 47, 98]⟩] 9 0
    simpa using this
  have h3c : (((w6.alloc (.cells #[.int .i64 0] 3)).alloc (.cells #[.string ⟨#[47, 97, 47, 98]⟩] 9)).alloc (.cells #[.string ⟨#[47, 97, 47, 98]⟩] 9)).cell? ⟨w6.heap.size, 0, none⟩ = some (.int .i64 0) := by
    rw [World.cell?_alloc_lt _ _ _ (by simp; omega), World.cell?_alloc_lt _ _ _ (by simp)]
    simp
  have h3f : (((w6.alloc (.cells #[.int .i64 0] 3)).alloc (.cells #[.string ⟨#[47, 97, 47, 98]⟩] 9)).alloc (.cells #[.string ⟨#[47, 97, 47, 98]⟩] 9)).frozen? ⟨w6.heap.size, 0, none⟩ = false := by
    rw [World.frozen?_alloc_past _ _ _ (by simp; omega), World.frozen?_alloc_past _ _ _ (by simp)]
    simp
  have h36 : Below w6.heap.size w6 (((w6.alloc (.cells #[.int .i64 0] 3)).alloc (.cells #[.string ⟨#[47, 97, 47, 98]⟩] 9)).alloc (.cells #[.string ⟨#[47, 97, 47, 98]⟩] 9)) :=
    (((Below.refl _ _).alloc (Nat.le_refl _) _).alloc (by simp) _).alloc (by simp; omega) _
  generalize (((w6.alloc (.cells #[.int .i64 0] 3)).alloc (.cells #[.string ⟨#[47, 97, 47, 98]⟩] 9)).alloc (.cells #[.string ⟨#[47, 97, 47, 98]⟩] 9)) = W3 at *
  have hsw := HB6.out.size
  have H03 : Hid (WorksI w W3 w6.heap.size [] W3) := ⟨h3c, h3f, below_trans HB6.out h36, Nat.le_refl _, fun _ _ _ => rfl⟩
  have H36 := Lib.hid h36
  clear h3c h3f h36
  refine wp_range_fix (gf := 26) (lb := #[.pointer (some ⟨w6.heap.size + 2, 0, none⟩)]) rfl (enters_of Tryd.func26 (by kernel_rfl) rfl)
    (prefixes_iter (w6.heap.size + 2) ⟨#[47, 97, 47, 98]⟩ (by decide) W3 (by omega) hcs3) (Below.refl _ _) (Nat.zero_le _) (fun _ => rfl)
    (fun H => WorksI w W3 w6.heap.size) (fun H _ _ _ => False) (fun H => worksI_own (W0 := w) (W3 := W3) (by omega) (by omega)) (fun H c => fun _ _ _ _ h _ _ => h.elim)
    (fun H hH => H03.out) ?_ ?_ ?_ ?_ ?_
  rotate_left
  · intro l x W K hK
    unfold encPref
    gi_wp2
    exact hK
  · rintro l' H pre x W1 hl hlH hHW _ hI hlen
    have hlen' : pre ++ [x] <+: pAB := by
      have h := hlen
      rwa [show bytesOf (⟨#[47, 97, 47, 98]⟩ : ByteArray) = [47, 97, 47, 98] from rfl, pAB_eq] at h
    have hst := pAB_step hlen'
    have hac : accN (pre ++ [x]) = 10 * accN pre + x.1 + x.2.length := by rw [accN, List.foldl_append]; rfl
    obtain ⟨hc, hf, hbl, hlt, hoth⟩ := hI
    have HBL := Lib.hid hbl
    have HO := Lib.hid hoth
    have HNEW : ∀ z : Int, accN (pre ++ [x]) = z → Hid (Keeps W3.heap.size 0 H W1 (W1.setCell ⟨w6.heap.size, 0, none⟩ (.int .i64 z)) ∧ WorksI w W3 w6.heap.size (pre ++ [x]) (W1.setCell ⟨w6.heap.size, 0, none⟩ (.int .i64 z))) := fun z hz =>
      ⟨Keeps.setCell W1 _ _ (Nat.zero_le _) (.inl (by show w6.heap.size < W3.heap.size; omega)), by rw [hz]; exact World.cell?_setCell_same' _ _ _ (by rw [hc]; rfl), by simpa using hf, HBL.out.setCell (p := ⟨w6.heap.size, 0, none⟩) hsw _, by simpa using hlt, fun k h1 h2 => (Below.heap_setCell W1 _ _ k (by show k ≠ w6.heap.size; omega)).trans (HO.out k h1 h2)⟩
    clear hlen hlen' hbl hoth
    have hl1 : (ofBytes [47]).size = 1 := rfl
    have hl2 : (ofBytes [47, 97]).size = 2 := rfl
    have hl3 : (ofBytes [47, 97, 47, 98]).size = 4 := rfl
    rcases hst with ⟨ha, rfl⟩ | ⟨ha, rfl⟩ | ⟨ha, rfl⟩
    · have HN := HNEW 1 (by rw [hac, ha]; rfl)
      rw [ha] at hc
      clear HNEW hac ha
      gi_wp2
      exact HN.out
    · have HN := HNEW 13 (by rw [hac, ha]; rfl)
      rw [ha] at hc
      clear HNEW hac ha
      gi_wp2
      exact HN.out
    · have HN := HNEW 136 (by rw [hac, ha]; rfl)
      rw [ha] at hc
      clear HNEW hac ha
      gi_wp2
      exact HN.out
  · rintro D H xs W4 hD hH hxs hI hK
    have hxs' : xs = pAB := by
      rw [hxs, show bytesOf (⟨#[47, 97, 47, 98]⟩ : ByteArray) = [47, 97, 47, 98] from rfl, pAB_eq]
    subst hxs'
    clear hxs
    obtain ⟨hc, hf, hbl, hlt, hoth⟩ := hI
    rw [show accN pAB = 136 from rfl] at hc
    have hszB := hbl.size
    have HBL := Lib.hid hbl
    have HR4 : Hid (RowAt W4 A [.string ⟨#[97]⟩, .string ⟨#[98]⟩]) := HROW.out.keep (by have := H36.out.size; omega) (fun p hp => by
      rw [World.cell?_of_block (hoth p.block (by have := H36.out.size; omega) (by omega))]
      exact H36.out.cell hp)
    have HTX : Hid (∀ W X c', Below W4.heap.size W4 W → RowAt W X [.string ⟨#[97]⟩, .string ⟨#[98]⟩] → Calls Tryd.prog 14 #[.slice A 2 c, .slice X 2 c'] W fun e W' => e = .returned (.bool true) ∧ Below W.heap.size W W') := fun W X c' hW hX =>
      texts_any [⟨#[97]⟩, ⟨#[98]⟩] [⟨#[97]⟩, ⟨#[98]⟩] A X 2 2 c c' W rfl rfl (by unfold maxLen; omega) (HR4.out.below hW) hX
    have HKM : Hid (∀ W, Below W4.heap.size W4 W → Below w.heap.size w W ∧ W.cell? ⟨w6.heap.size, 0, none⟩ = some (.int .i64 136)) := fun W hW =>
      ⟨below_trans HBL.out hW, (hW.cell (p := ⟨w6.heap.size, 0, none⟩) (by show w6.heap.size < W4.heap.size; omega)).trans hc⟩
    have HKD := Lib.hid hK
    clear hbl hoth hf hc hK
    go_wp2_with (go_at_call 15; refine (num_any _ _).mono ?_; rintro e w2 ⟨rfl, rfl⟩)
    have hnew := rowAt_new W4 [.string ⟨#[97]⟩, .string ⟨#[98]⟩] 9
    have hba : Below W4.heap.size W4 (W4.alloc (.cells #[.string ⟨#[97]⟩, .string ⟨#[98]⟩] 9)) := (Below.refl _ _).alloc (Nat.le_refl _) _
    refine (HTX.out _ _ _ hba hnew).mono ?_
    rintro e w7 ⟨rfl, hb7⟩
    have hb7' := below_trans hba hb7
    have HB7 := Lib.hid hb7'
    clear hb7 hba hnew hb7'
    go_wp2_with fail
    refine (fails_any ⟨#[97]⟩ 170 w7 (by decide)).mono ?_
    rintro e w8 ⟨rfl, hb8⟩
    rw [show ((readP (bytesOf ⟨#[97]⟩)).1 == (170 : Int)) = true by kernel_rfl]
    have HB8 := Lib.hid (below_trans HB7.out hb8)
    clear hb8
    go_wp2_with fail
    refine (fails_any ⟨#[47, 97, 47]⟩ 170 w8 (by decide)).mono ?_
    rintro e w9 ⟨rfl, hb9⟩
    rw [show ((readP (bytesOf ⟨#[47, 97, 47]⟩)).1 == (170 : Int)) = true by kernel_rfl]
    have HB9 := Lib.hid (below_trans HB8.out hb9)
    clear hb9
    go_wp2_with fail
    refine (fails_any ⟨#[47, 47, 97]⟩ 170 w9 (by decide)).mono ?_
    rintro e w10 ⟨rfl, hb10⟩
    rw [show ((readP (bytesOf ⟨#[47, 47, 97]⟩)).1 == (170 : Int)) = true by kernel_rfl]
    have HB10 := Lib.hid (below_trans HB9.out hb10)
    clear hb10
    go_wp2_with fail
    refine (fails_any ⟨#[47, 97, 47, 46, 46]⟩ 160 w10 (by decide)).mono ?_
    rintro e w11 ⟨rfl, hb11⟩
    rw [show ((readP (bytesOf ⟨#[47, 97, 47, 46, 46]⟩)).1 == (160 : Int)) = true by kernel_rfl]
    have HB11 := Lib.hid (below_trans HB10.out hb11)
    have hc11 := (HKM.out _ HB11.out).2
    clear hb11
    go_wp2_with (go_at_call 15; refine (num_any _ _).mono ?_; rintro e w2 ⟨rfl, rfl⟩)
    have hKD : w11.heap[D]? = some (.deferred (some [])) := (HB11.out.block D (Array.getElem?_eq_some_iff.1 HKD.out).1).trans HKD.out
    exact ret_mark hKD (results_tmp rfl _ _ _) ⟨rfl, below_mark (HKM.out _ HB11.out).1 (by omega) hKD⟩
  · rintro D H cc pre W4 hD hH hSp h hK
    exact h.elim
end Go.Proofs.YtkhpdlaljepkjaaDoor
