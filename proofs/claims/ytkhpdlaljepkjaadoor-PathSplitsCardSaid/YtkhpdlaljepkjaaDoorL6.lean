/- The law PathCounts as a call. Conditions: none. -/
import Derived.Test.YtkhpdlaljepkjaaDoorL3
namespace Go.Proofs.YtkhpdlaljepkjaaDoor
open Go.RowKit Go.Shelf
attribute [local go_sem] Oper.semAt_some

/-- The text ahead of the k-th beginning. -/
def aheadL (l : List (List UInt8)) : Nat → List UInt8
  | 0 => []
  | k + 1 => textP (l.take k)
theorem map_prefix_inv {α : Type} {f : Nat → α} {pre : List α} {x : α} {n : Nat} (h : pre ++ [x] <+: (List.range n).map f) : x = f pre.length ∧ pre.length < n := by
  obtain ⟨t, ht⟩ := h
  have hl := congrArg List.length ht
  simp at hl
  have hx : ((List.range n).map f)[pre.length]? = some x := by rw [← ht]; simp
  rw [List.getElem?_map, List.getElem?_range (by omega)] at hx
  exact ⟨(Option.some.inj hx).symm, by omega⟩
/-- What the loop keeps. -/
def CountI (W0 W3 : World) (Bn Ba : Nat) (l : List (List UInt8)) (pre : List (Nat × List UInt8)) (Wx : World) : Prop :=
  Wx.cell? ⟨Bn, 0, none⟩ = some (.int .i64 (pre.length : Nat)) ∧ Wx.frozen? ⟨Bn, 0, none⟩ = false ∧ Wx.cell? ⟨Ba, 0, none⟩ = some (.string (ofBytes (aheadL l pre.length))) ∧ Wx.frozen? ⟨Ba, 0, none⟩ = false ∧
    Below W0.heap.size W0 Wx ∧ W3.heap.size ≤ Wx.heap.size ∧ ∀ k, k < W3.heap.size → k ≠ Bn → k ≠ Ba → Wx.heap[k]? = W3.heap[k]?
theorem countI_own {W0 W3 : World} {Bn Ba : Nat} {l : List (List UInt8)} (hB : Bn < W3.heap.size) (hA : Ba < W3.heap.size) (hW : W0.heap.size ≤ W3.heap.size) : OwnFrom W3.heap.size (CountI W0 W3 Bn Ba l) := fun _ X Y row hs hg hr => by
  obtain ⟨h1, h2, h3, h4, h5, hsz, h7⟩ := hs
  have hk : ∀ k, k < W3.heap.size → Y.heap[k]? = X.heap[k]? := fun k hk => hg.block k (by omega) (fun e => by have := (hr _ e.symm).1; omega)
  exact ⟨(World.cell?_of_block (hk _ hB)).trans h1, (World.frozen?_of_block (hk _ hB)).trans h2, (World.cell?_of_block (hk _ hA)).trans h3, (World.frozen?_of_block (hk _ hA)).trans h4,
    h5.grown hg h5.size (fun k e => by have := (hr k e).1; omega), Nat.le_trans hsz hg.size, fun k h1 h2 h3 => (hk k h1).trans (h7 k h1 h2 h3)⟩
theorem cell_mark {W : World} {D b : Nat} (hK : W.heap[D]? = some (.deferred (some []))) {u : Value} (h : W.cell? ⟨b, 0, none⟩ = some u) : (W.putObj D (.deferred none)).cell? ⟨b, 0, none⟩ = some u := by
  have hne : b ≠ D := fun e => by
    subst e
    simp [World.cell?, hK] at h
  rw [World.cell?_of_block (World.putObj_heap_other hne)]; exact h

set_option maxRecDepth 100000 in
set_option maxHeartbeats 2000000 in
theorem law_counts (s : ByteArray) (w : World) (hs : s.size < 140737488355328) :
    Calls Tryd.prog 6 #[.string s] w fun e w' => e = .returned (.bool true) ∧ Below w.heap.size w w' := by
  have HWK := Lib.hid works_any
  refine calls_of_wp_marks Tryd.func6 rfl ?_
  simp only [Tryd.ntmps6, List.size_toArray, List.length_cons, List.length_nil, Nat.reduceAdd, Nat.reduceSub, Array.replicate_succ, Array.replicate_zero, List.push_toArray, List.append_toArray, List.nil_append, List.cons_append]
  by_cases h1 : 300 < s.size
  · go_wp2_with fail
    refine (HWK.out _).mono ?_
    rintro e w' ⟨rfl, hb⟩
    have hc0 : w'.cell? ⟨w.heap.size, 0, none⟩ = some (.bool false) := (hb.cell (p := ⟨w.heap.size, 0, none⟩) (by simp)).trans (by simp)
    have hcs : (w'.setCell ⟨w.heap.size, 0, none⟩ (.bool true)).cell? ⟨w.heap.size, 0, none⟩ = some (.bool true) := World.cell?_setCell_same' _ _ _ (by rw [hc0]; rfl)
    have hf0 : w'.frozen? ⟨w.heap.size, 0, none⟩ = false := (hb.frozen (p := ⟨w.heap.size, 0, none⟩) (by simp)).trans (by simp)
    have HB := Lib.hid (below_trans ((Below.refl _ w).alloc (Nat.le_refl _) _) hb)
    clear hb
    go_wp2_with fail
    refine ret_plain (v := .bool true) (by simp [results, Tryd.results6, go_sem, hcs]) ⟨rfl, HB.out.setCell (p := ⟨w.heap.size, 0, none⟩) (Nat.le_refl _) _⟩
  · have hq : (((readP (bytesOf s)).1 != 0) = true ∧ (readP (bytesOf s)).2 = []) ∨ ((readP (bytesOf s)).1 = 0 ∧ (readP (bytesOf s)).2 = []) ∨ ∃ l, readP (bytesOf s) = (0, l) ∧ l.length ≤ 16 ∧ 0 < l.length ∧ l.all rightB = true := by
      by_cases e : (readP (bytesOf s)).1 = 0
      · by_cases e2 : (readP (bytesOf s)).2 = []
        · exact .inr (.inl ⟨e, e2⟩)
        · exact .inr (.inr ⟨_, Prod.ext e rfl, (readP_fine e).1, List.length_pos_iff.2 e2, (readP_fine e).2⟩)
      · exact .inl ⟨by rw [bne_iff_ne]; exact e, readP_err e⟩
    have HC := Lib.hid (psplit_to (s := s) (z := (readP (bytesOf s)).1) (l := (readP (bytesOf s)).2) rfl (by omega))
    rcases hq with ⟨hz, hl⟩ | ⟨hz, hl⟩ | ⟨l, hl, hl16, hl0, hall⟩
    · rw [hl] at HC
      generalize (readP (bytesOf s)).1 = z at *
      go_wp2_with fail
      refine (HC.out _).mono ?_
      rintro e w1 ⟨A1, c1, rfl, hc1, hm1, HR1, hb1⟩
      have hcr : w1.cell? ⟨w.heap.size, 0, none⟩ = some (.bool false) := (hb1.cell (p := ⟨w.heap.size, 0, none⟩) (by simp)).trans (by simp)
      have hfr : w1.frozen? ⟨w.heap.size, 0, none⟩ = false := (hb1.frozen (p := ⟨w.heap.size, 0, none⟩) (by simp)).trans (by simp)
      have hsz : w.heap.size < w1.heap.size := by have := hb1.size; simp at this; omega
      have HB1 := Lib.hid (below_trans ((Below.refl _ w).alloc (Nat.le_refl _) _) hb1)
      clear hb1
      go_wp2_with (go_at_call 15; refine (num_any _ _).mono ?_; rintro e w2 ⟨rfl, rfl⟩)
      refine (HWK.out _).mono ?_
      rintro e w7 ⟨rfl, hb7⟩
      have hc7 : w7.cell? ⟨w.heap.size, 0, none⟩ = some (.bool false) := (hb7.cell (p := ⟨w.heap.size, 0, none⟩) (by show w.heap.size < w1.heap.size; omega)).trans hcr
      have hf7 : w7.frozen? ⟨w.heap.size, 0, none⟩ = false := (hb7.frozen (p := ⟨w.heap.size, 0, none⟩) (by show w.heap.size < w1.heap.size; omega)).trans hfr
      have hcs : (w7.setCell ⟨w.heap.size, 0, none⟩ (.bool true)).cell? ⟨w.heap.size, 0, none⟩ = some (.bool true) := World.cell?_setCell_same' _ _ _ (by rw [hc7]; rfl)
      have HB7 := Lib.hid (below_trans HB1.out hb7)
      clear hb7
      go_wp2_with fail
      refine ret_plain (v := .bool true) (by simp [results, Tryd.results6, go_sem, hcs]) ⟨rfl, HB7.out.setCell (p := ⟨w.heap.size, 0, none⟩) (Nat.le_refl _) _⟩
    · rw [hl, hz] at HC
      go_wp2_with fail
      refine (HC.out _).mono ?_
      rintro e w1 ⟨A1, c1, rfl, hc1, hm1, HR1, hb1⟩
      have hcr : w1.cell? ⟨w.heap.size, 0, none⟩ = some (.bool false) := (hb1.cell (p := ⟨w.heap.size, 0, none⟩) (by simp)).trans (by simp)
      have hfr : w1.frozen? ⟨w.heap.size, 0, none⟩ = false := (hb1.frozen (p := ⟨w.heap.size, 0, none⟩) (by simp)).trans (by simp)
      have hsz : w.heap.size < w1.heap.size := by have := hb1.size; simp at this; omega
      have HB1 := Lib.hid (below_trans ((Below.refl _ w).alloc (Nat.le_refl _) _) hb1)
      clear hb1
      go_wp2_with (go_at_call 15; refine (num_any _ _).mono ?_; rintro e w2 ⟨rfl, rfl⟩)
      refine (HWK.out _).mono ?_
      rintro e w7 ⟨rfl, hb7⟩
      have hc7 : w7.cell? ⟨w.heap.size, 0, none⟩ = some (.bool false) := (hb7.cell (p := ⟨w.heap.size, 0, none⟩) (by show w.heap.size < w1.heap.size; omega)).trans hcr
      have hf7 : w7.frozen? ⟨w.heap.size, 0, none⟩ = false := (hb7.frozen (p := ⟨w.heap.size, 0, none⟩) (by show w.heap.size < w1.heap.size; omega)).trans hfr
      have hcs : (w7.setCell ⟨w.heap.size, 0, none⟩ (.bool true)).cell? ⟨w.heap.size, 0, none⟩ = some (.bool true) := World.cell?_setCell_same' _ _ _ (by rw [hc7]; rfl)
      have HB7 := Lib.hid (below_trans HB1.out hb7)
      clear hb7
      go_wp2_with fail
      refine ret_plain (v := .bool true) (by simp [results, Tryd.results6, go_sem, hcs]) ⟨rfl, HB7.out.setCell (p := ⟨w.heap.size, 0, none⟩) (Nat.le_refl _) _⟩
    · rw [hl] at HC
      have HPN : Hid (prefN (readP (bytesOf s)).2 = (List.range (l.length + 1)).map (prefOf l)) := by rw [Hid, hl]; exact if_neg (fun e => by have e' : l = [] := e; rw [e'] at hl0; simp at hl0)
      have htx := textP_readP (s := bytesOf s) (by rw [hl])
      rw [hl] at htx
      have hpw := fun k (hk : k < l.length) => prefixes_within (s := bytesOf s) (by rw [hl]) (k := k) (by rw [hl]; exact hk)
      rw [hl] at hpw
      have hsm : ∀ k, (ofBytes (textP (l.take k))).size < 4294967281 := fun k => by
        have h1 : (ofBytes (textP (l.take k))).size = (textP (l.take k)).length := rfl
        have h2 := textP_size (l := l.take k) (by rw [List.length_take]; omega) (by
          rw [List.all_eq_true] at hall ⊢
          exact fun x hx => hall x (List.mem_of_mem_take hx))
        omega
      have HW : Hid (∀ j, j < l.length → ∀ W, Calls Tryd.prog 18 #[.string (ofBytes (textP (l.take (j + 1)))), .string (ofBytes (textP (l.take j)))] W fun e W' => e = .returned (.tuple #[.bool true, .int .i64 0]) ∧ Below W.heap.size W W') := fun j hj W => by
        have h := within_any (ofBytes (textP (l.take (j + 1)))) (ofBytes (textP (l.take j))) W (hsm _) (hsm _)
        unfold WithinPost at h
        rw [bytesOf_ofBytes, bytesOf_ofBytes, hpw j hj] at h
        exact h
      have HAL : Hid (ofBytes (aheadL l (l.length + 1)) = s) := by
        rw [Hid, aheadL, List.take_length]
        exact bytesOf_inj (by rw [bytesOf_ofBytes]; exact htx)
      have HS := Lib.hid (show s.size < 4294967281 by omega)
      obtain ⟨m, HM, hm0, hm16⟩ : ∃ m : Nat, Hid (l.length = m) ∧ 0 < m ∧ m ≤ 16 := ⟨_, rfl, hl0, hl16⟩
      simp only at HC
      rw [HM.out] at HC HPN HAL HW
      have hm0' : ((m : Int) == 0) = false := by rw [beq_eq_false_iff_ne]; omega
      clear hl hl16 hl0 hall htx hpw hsm
      go_wp2_with fail
      refine (HC.out _).mono ?_
      rintro e w1 ⟨A1, c1, rfl, hc1, hm1, HR1, hb1⟩
      have hcr : w1.cell? ⟨w.heap.size, 0, none⟩ = some (.bool false) := (hb1.cell (p := ⟨w.heap.size, 0, none⟩) (by simp)).trans (by simp)
      have hfr : w1.frozen? ⟨w.heap.size, 0, none⟩ = false := (hb1.frozen (p := ⟨w.heap.size, 0, none⟩) (by simp)).trans (by simp)
      have hsz : w.heap.size < w1.heap.size := by have := hb1.size; simp at this; omega
      have HB1 := Lib.hid (below_trans ((Below.refl _ w).alloc (Nat.le_refl _) _) hb1)
      clear hb1
      go_wp2_with (first
        | (go_at_call 15; refine (num_any _ _).mono ?_; rintro e w2 ⟨rfl, rfl⟩)
        | (go_at_call 17; refine (prefixes_any _ _).mono ?_; rintro e w' ⟨rfl, rfl⟩))
      have h3n : (((w1.alloc (.cells #[.int .i64 0] 3)).alloc (.cells #[.string ⟨#[]⟩] 9)).alloc (.cells #[.string s] 9)).cell? ⟨w1.heap.size, 0, none⟩ = some (.int .i64 0) := by
        rw [World.cell?_alloc_lt _ _ _ (by simp; omega), World.cell?_alloc_lt _ _ _ (by simp)]
        simp
      have h3nf : (((w1.alloc (.cells #[.int .i64 0] 3)).alloc (.cells #[.string ⟨#[]⟩] 9)).alloc (.cells #[.string s] 9)).frozen? ⟨w1.heap.size, 0, none⟩ = false := by
        rw [World.frozen?_alloc_past _ _ _ (by simp; omega), World.frozen?_alloc_past _ _ _ (by simp)]
        simp
      have h3a : (((w1.alloc (.cells #[.int .i64 0] 3)).alloc (.cells #[.string ⟨#[]⟩] 9)).alloc (.cells #[.string s] 9)).cell? ⟨w1.heap.size + 1, 0, none⟩ = some (.string ⟨#[]⟩) := by
        rw [World.cell?_alloc_lt _ _ _ (by simp)]
        simp
      have h3af : (((w1.alloc (.cells #[.int .i64 0] 3)).alloc (.cells #[.string ⟨#[]⟩] 9)).alloc (.cells #[.string s] 9)).frozen? ⟨w1.heap.size + 1, 0, none⟩ = false := by
        rw [World.frozen?_alloc_past _ _ _ (by simp)]
        have := World.frozen?_alloc_at (w := w1.alloc (.cells #[.int .i64 0] 3)) #[.string ⟨#[]⟩] 9 (w1.heap.size + 1) 0 (by simp)
        exact this
      have h3s : (((w1.alloc (.cells #[.int .i64 0] 3)).alloc (.cells #[.string ⟨#[]⟩] 9)).alloc (.cells #[.string s] 9)).cell? ⟨w1.heap.size + 1 + 1, 0, none⟩ = some (.string s) := by
        have := World.cell?_alloc_new ((w1.alloc (.cells #[.int .i64 0] 3)).alloc (.cells #[.string ⟨#[]⟩] 9)) #[.string s] 9 0
        simpa using this
      have h31 : Below w1.heap.size w1 (((w1.alloc (.cells #[.int .i64 0] 3)).alloc (.cells #[.string ⟨#[]⟩] 9)).alloc (.cells #[.string s] 9)) := (((Below.refl _ _).alloc (Nat.le_refl _) _).alloc (by simp) _).alloc (by simp; omega) _
      have hsz3 : (((w1.alloc (.cells #[.int .i64 0] 3)).alloc (.cells #[.string ⟨#[]⟩] 9)).alloc (.cells #[.string s] 9)).heap.size = w1.heap.size + 3 := by simp
      generalize (((w1.alloc (.cells #[.int .i64 0] 3)).alloc (.cells #[.string ⟨#[]⟩] 9)).alloc (.cells #[.string s] 9)) = W3 at *
      have hcr3 : W3.cell? ⟨w.heap.size, 0, none⟩ = some (.bool false) := (h31.cell (p := ⟨w.heap.size, 0, none⟩) hsz).trans hcr
      have hfr3 : W3.frozen? ⟨w.heap.size, 0, none⟩ = false := (h31.frozen (p := ⟨w.heap.size, 0, none⟩) hsz).trans hfr
      have H03 : Hid (CountI w W3 w1.heap.size (w1.heap.size + 1) l [] W3) := ⟨h3n, h3nf, h3a, h3af, below_trans HB1.out h31, Nat.le_refl _, fun _ _ _ _ => rfl⟩
      have hwsz := HB1.out.size
      clear h3n h3nf h3a h3af h31
      refine wp_range_fix (gf := 26) (lb := #[.pointer (some ⟨w1.heap.size + 1 + 1, 0, none⟩)]) rfl (enters_of Tryd.func26 (by kernel_rfl) rfl)
        (prefixes_iter (w1.heap.size + 1 + 1) s HS.out W3 (by omega) h3s) (Below.refl _ _) (Nat.zero_le _) (fun _ => rfl)
        (fun H => CountI w W3 w1.heap.size (w1.heap.size + 1) l) (fun H _ _ _ => False) (fun H => countI_own (by omega) (by omega) (by omega)) (fun H c => fun _ _ _ _ h _ _ => h.elim)
        (fun H hH => H03.out) ?_ ?_ ?_ ?_ ?_
      rotate_left
      · intro l x W K hK
        unfold encPref
        gi_wp2
        exact hK
      · rintro l' H pre x W1 hl hlH hHW _ hI hlen
        obtain ⟨h1, h2, h3, h4, h5, h6, h7⟩ := hI
        have hx : x = prefOf l pre.length ∧ pre.length < m + 1 := by
          rw [HPN.out] at hlen; exact map_prefix_inv hlen
        obtain ⟨hx, hkm⟩ := hx
        subst hx
        have HNEW : Hid (∀ W2, Below W1.heap.size W1 W2 → Keeps W3.heap.size 0 H W1 ((W2.setCell ⟨w1.heap.size, 0, none⟩ (.int .i64 ((pre.length : Int) + 1))).setCell ⟨w1.heap.size + 1, 0, none⟩ (.string (ofBytes (textP (l.take pre.length))))) ∧
            CountI w W3 w1.heap.size (w1.heap.size + 1) l (pre ++ [prefOf l pre.length]) ((W2.setCell ⟨w1.heap.size, 0, none⟩ (.int .i64 ((pre.length : Int) + 1))).setCell ⟨w1.heap.size + 1, 0, none⟩ (.string (ofBytes (textP (l.take pre.length)))))) := fun W2 hb2 => by
          have hs2 := hb2.size
          have c1 := (hb2.cell (p := ⟨w1.heap.size, 0, none⟩) (by show w1.heap.size < W1.heap.size; omega)).trans h1
          have c2 := (hb2.cell (p := ⟨w1.heap.size + 1, 0, none⟩) (by show w1.heap.size + 1 < W1.heap.size; omega)).trans h3
          have f1 := (hb2.frozen (p := ⟨w1.heap.size, 0, none⟩) (by show w1.heap.size < W1.heap.size; omega)).trans h2
          have f2 := (hb2.frozen (p := ⟨w1.heap.size + 1, 0, none⟩) (by show w1.heap.size + 1 < W1.heap.size; omega)).trans h4
          have hle : (pre ++ [prefOf l pre.length]).length = pre.length + 1 := by simp
          refine ⟨((Keeps.of_below hb2 (Nat.zero_le _) (by omega)).trans (Keeps.setCell W2 _ _ (Nat.zero_le _) (.inl (by show w1.heap.size < W3.heap.size; omega)))).trans (Keeps.setCell _ _ _ (Nat.zero_le _) (.inl (by show w1.heap.size + 1 < W3.heap.size; omega))), ?_, ?_, ?_, ?_, ?_, ?_, ?_⟩
          · rw [World.cell?_setCell_other _ _ _ _ (by simp), World.cell?_setCell_same' _ _ _ (by rw [c1]; rfl), hle]; simp
          · simpa using f1
          · rw [World.cell?_setCell_same' _ _ _ (by rw [World.cell?_setCell_other _ _ _ _ (by simp), c2]; rfl), hle]; rfl
          · simpa using f2
          · exact ((below_trans h5 hb2).setCell (p := ⟨w1.heap.size, 0, none⟩) hwsz _).setCell (p := ⟨w1.heap.size + 1, 0, none⟩) (by show w.heap.size ≤ w1.heap.size + 1; omega) _
          · simp; omega
          · intro k hk1 hk2 hk3
            exact (Below.heap_setCell _ _ _ k (by show k ≠ w1.heap.size + 1; omega)).trans ((Below.heap_setCell _ _ _ k (by show k ≠ w1.heap.size; omega)).trans ((hb2.block k (by omega)).trans (h7 k hk1 hk2 hk3)))
        have HBE : Hid (∀ W2, Below W1.heap.size W1 W2 → W2.cell? ⟨w1.heap.size, 0, none⟩ = some (.int .i64 (pre.length : Nat)) ∧ W2.frozen? ⟨w1.heap.size, 0, none⟩ = false ∧ W2.frozen? ⟨w1.heap.size + 1, 0, none⟩ = false ∧ (∃ u, W2.cell? ⟨w1.heap.size + 1, 0, none⟩ = some u)) := fun W2 hb2 =>
          ⟨(hb2.cell (p := ⟨w1.heap.size, 0, none⟩) (by show w1.heap.size < W1.heap.size; omega)).trans h1, (hb2.frozen (p := ⟨w1.heap.size, 0, none⟩) (by show w1.heap.size < W1.heap.size; omega)).trans h2,
            (hb2.frozen (p := ⟨w1.heap.size + 1, 0, none⟩) (by show w1.heap.size + 1 < W1.heap.size; omega)).trans h4, _, (hb2.cell (p := ⟨w1.heap.size + 1, 0, none⟩) (by show w1.heap.size + 1 < W1.heap.size; omega)).trans h3⟩
        clear hlen h5 h7
        unfold prefOf
        have hsp := HW.out
        clear HW
        rcases Nat.eq_zero_or_pos pre.length with h0 | h0
        · have HN := Lib.hid (HNEW.out W1 (Below.refl _ _))
          clear HNEW HBE hsp
          rw [h0] at h1 h3 HN ⊢
          gi_wp2
          exact HN.out
        · have HWJ : Hid (∀ W, Calls Tryd.prog 18 #[.string (ofBytes (textP (l.take pre.length))), .string (ofBytes (aheadL l pre.length))] W fun e W' => e = .returned (.tuple #[.bool true, .int .i64 0]) ∧ Below W.heap.size W W') := by
            obtain ⟨j, hj⟩ : ∃ j, pre.length = j + 1 := ⟨pre.length - 1, by omega⟩
            rw [hj]
            exact hsp j (by omega)
          clear hsp
          have HPR : Hid ((pre.length, textP (l.take pre.length)) = prefOf l pre.length) := rfl
          generalize pre.length = q at *
          generalize aheadL l q = ah at *
          gi_wp2_with fail
          refine ⟨trivial, ?_⟩
          refine (CallsIn.inRound l' (callsIn_wide.2 (HWJ.out _))).mono ?_
          rintro e W2 ⟨rfl, hb2⟩
          obtain ⟨hn2, hf2, hfa2, u2, ha2⟩ := HBE.out _ hb2
          have HN2 := Lib.hid (HNEW.out _ hb2)
          clear hb2 HNEW HBE
          gi_wp2_with fail
          refine ⟨trivial, ?_⟩
          refine (CallsIn.inRound l' (callsIn_wide.2 (num_any _ _))).mono ?_
          rintro e w2 ⟨rfl, rfl⟩
          gi_wp2_with fail
          exact HN2.out
      · rintro D H xs W4 hD hH hxs hI hK
        obtain ⟨h1, h2, h3, h4, h5, h6, h7⟩ := hI
        have hlen : xs.length = m + 1 := by rw [hxs, HPN.out]; simp
        rw [hlen] at h1 h3
        rw [HAL.out] at h3
        have hcr4 : W4.cell? ⟨w.heap.size, 0, none⟩ = some (.bool false) := (World.cell?_of_block (h7 w.heap.size (by omega) (by omega) (by omega))).trans hcr3
        have hfr4 : W4.frozen? ⟨w.heap.size, 0, none⟩ = false := (World.frozen?_of_block (h7 w.heap.size (by omega) (by omega) (by omega))).trans hfr3
        have HB4 := Lib.hid h5
        have HKD := Lib.hid hK
        clear hxs h5 h7 h2 h4 hK hlen
        go_wp2_with fail
        refine (HWK.out _).mono ?_
        rintro e w7 ⟨rfl, hb7⟩
        have hc7 : w7.cell? ⟨w.heap.size, 0, none⟩ = some (.bool false) := (hb7.cell (p := ⟨w.heap.size, 0, none⟩) (by show w.heap.size < W4.heap.size; omega)).trans hcr4
        have hf7 : w7.frozen? ⟨w.heap.size, 0, none⟩ = false := (hb7.frozen (p := ⟨w.heap.size, 0, none⟩) (by show w.heap.size < W4.heap.size; omega)).trans hfr4
        have hcs : (w7.setCell ⟨w.heap.size, 0, none⟩ (.bool true)).cell? ⟨w.heap.size, 0, none⟩ = some (.bool true) := World.cell?_setCell_same' _ _ _ (by rw [hc7]; rfl)
        have HB7 : Hid (Below w.heap.size w (w7.setCell ⟨w.heap.size, 0, none⟩ (.bool true))) := (below_trans HB4.out hb7).setCell (p := ⟨w.heap.size, 0, none⟩) (Nat.le_refl _) _
        have HKD7 : Hid ((w7.setCell ⟨w.heap.size, 0, none⟩ (.bool true)).heap[D]? = some (.deferred (some []))) := (Below.heap_setCell _ _ _ D (by show D ≠ w.heap.size; omega)).trans ((hb7.block D (Array.getElem?_eq_some_iff.1 HKD.out).1).trans HKD.out)
        clear hb7
        go_wp2_with fail
        have hcm := cell_mark HKD7.out hcs
        refine ret_mark (v := .bool true) HKD7.out (by simp [results, Tryd.results6, go_sem, hcm]) ⟨rfl, below_mark HB7.out (by omega) HKD7.out⟩
      · rintro D H cc pre W4 hD hH hSp h hK
        exact h.elim
end Go.Proofs.YtkhpdlaljepkjaaDoor
