/- The contract of word.Words. The contract of word.Bytes at one word. Conditions: none. -/
import Derived.Test.YtdpooagnbmpinaaGreatDoorZW3
import Derived.OneCell
namespace Go.Proofs.YtdpooagnbmpinaaGreatDoor
open Go.RowKit Go.Shelf
attribute [local go_sem] Oper.semAt_some

theorem owns_ownFrom {B base : Nat} {e : TypeId} {size n : Nat} {v : Value} {xs : List Value} {W W' : World} {row : Option Nat} (h : W.ownsRow base e size v n xs) (hg : W.grownBy W' row)
    (hr : ∀ r, row = some r → B ≤ r ∧ ∃ o, W.heap[r]? = some o ∧ o.isCells = false) : W'.ownsRow base e size v n xs := by
  refine ⟨h.1, ?_⟩
  rcases h.2 with h0 | ⟨g, cap, cur, hv, hb, hc, rest⟩
  · exact .inl h0
  · refine .inr ⟨g, cap, cur, hv, hb, (hg.block g (Array.getElem?_eq_some_iff.1 hc).1 (fun e => ?_)).trans hc, rest⟩
    obtain ⟨_, o, ho, hic⟩ := hr g e.symm
    rw [hc] at ho
    cases ho
    cases hic
theorem owns_base {w : World} {base base' : Nat} {e : TypeId} {size n : Nat} {v : Value} {xs : List Value} (h : w.ownsRow base e size v n xs) (hb : base' ≤ base) : w.ownsRow base' e size v n xs := by
  refine ⟨h.1, ?_⟩
  rcases h.2 with h0 | ⟨g, cap, cur, hv, hbase, rest⟩
  · exact .inl h0
  · exact .inr ⟨g, cap, cur, hv, by omega, rest⟩
theorem owns_slice {w : World} {base : Nat} {e : TypeId} {size n : Nat} {v : Value} {xs : List Value} (h : w.ownsRow base e size v n xs) : ∃ A c, v = .slice A n c ∧ n ≤ c ∧ c ≤ maxLen := by
  rcases h.2 with ⟨e0, e1⟩ | ⟨g, cap, cur, hv, _, _, h1, h2, _⟩
  · subst e1; exact ⟨none, 0, e0, Nat.le_refl _, Nat.zero_le _⟩
  · exact ⟨_, _, hv, h1, h2⟩
theorem wpIn_append_run {F : Fence} {n : Nat} {P : Program} {w w' : World} {o : Oper} {a : Act} {K : Act → World → Prop} {Q : Exit → Act → World → Prop} (s x : Operand) (t : TypeId) {v u v' : Value}
    (ho : o.op = .call { callee := .builtin .append, args := #[s, x], argTypes := #[t, t] }) (hs : a.eval s = v) (hx : a.eval x = u) (hr : (Builtin.append_ #[t, t] o.type #[v, u]).run P w = .ok v' w')
    (h : K (a.put o.dst v') w') : o.wpIn F n P a w K Q := by
  unfold Oper.wpIn
  refine ⟨?_, ?_⟩
  · simp [Oper.about, ho, resolve, Target.leads, Sem.run_pure]
  · rw [Oper.semAt_plain F _ _ (by rw [ho]; intro c hc'; cases hc')]
    simp [execOp, ho, resolve, invoke, builtin, hs, hx, hr, Result.andThen]
    exact h
theorem cell_mark {W : World} {D b : Nat} (hK : W.heap[D]? = some (.deferred (some []))) {u : Value} (h : W.cell? ⟨b, 0, none⟩ = some u) : (W.putObj D (.deferred none)).cell? ⟨b, 0, none⟩ = some u := by
  have hne : b ≠ D := fun e => by
    subst e
    simp [World.cell?, hK] at h
  rw [World.cell?_of_block (World.putObj_heap_other hne)]; exact h
theorem range_prefix_inv {pre : List Nat} {x n : Nat} (h : pre ++ [x] <+: List.range n) : pre = List.range x ∧ x < n := by
  obtain ⟨t, ht⟩ := h
  have hl := congrArg List.length ht
  simp at hl
  have hp : pre = (List.range n).take pre.length := by rw [← ht]; simp
  have hx : (List.range n)[pre.length]? = some x := by rw [← ht]; simp
  rw [List.getElem?_range (by omega)] at hx
  have hx' := Option.some.inj hx
  rw [List.take_range, Nat.min_eq_left (by omega)] at hp
  subst hx'
  exact ⟨hp, by omega⟩

/-- What the loop over eight bytes each keeps. -/
def WordsI (w0 W2 : World) (bs : List UInt8) (H : Nat) (pre : List Nat) (W : World) : Prop :=
  ∃ v, W.heap[w0.heap.size]? = some (.cells #[v] 23 (0, 0)) ∧ W.ownsRow H 24 1 v pre.length ((pre.map (wordAt bs)).map encW) ∧ Below w0.heap.size w0 W ∧ W2.heap.size ≤ W.heap.size ∧ ∀ k, k < W2.heap.size → k ≠ w0.heap.size → W.heap[k]? = W2.heap[k]?
theorem wordsI_own {w0 W2 : World} {bs : List UInt8} {H : Nat} (hB : w0.heap.size < W2.heap.size) : OwnFrom W2.heap.size (WordsI w0 W2 bs H) := fun _ X Y row hs hg hr => by
  obtain ⟨v, h1, h2, h3, h4, h5⟩ := hs
  have hk : ∀ k, k < W2.heap.size → Y.heap[k]? = X.heap[k]? := fun k hk => hg.block k (by omega) (fun e => by have := (hr _ e.symm).1; omega)
  exact ⟨v, (hk _ hB).trans h1, owns_ownFrom h2 hg hr, h3.grown hg h3.size (fun k e => by have := (hr k e).1; omega), Nat.le_trans h4 hg.size, fun k e1 e2 => (hk k e1).trans (h5 k e1 e2)⟩

set_option maxRecDepth 100000 in
set_option maxHeartbeats 4000000 in
theorem words_any (bs : List UInt8) (b off n c : Nat) (w : World) (hn : bs.length = n) (hm : n ≤ 4096) (hnc : n ≤ c) (hc : c ≤ maxLen) (h : RowAt w (some ⟨b, off, none⟩) (bs.map encB)) (hb : b < w.heap.size) :
    Calls Tryz.prog 206 #[.slice (some ⟨b, off, none⟩) n c] w fun e w' => ∃ v, e = .returned (.tuple #[v, .int .i64 0]) ∧ w'.ownsRow w.heap.size 24 1 v ((n + 7) / 8) ((wordsN bs).map encW) ∧ Below w.heap.size w w' := by
  have HN := Lib.hid hn
  have HR := Lib.hid h
  clear hn h
  obtain ⟨i0, hi, hz0, hz1, hz2⟩ := info_parts Tryz.infoU64
  refine calls_of_wp_marks Tryz.func206 rfl ?_
  simp only [Tryz.ntmps206, List.size_toArray, List.length_cons, List.length_nil, Nat.reduceAdd, Nat.reduceSub, Array.replicate_succ, Array.replicate_zero, List.push_toArray, List.append_toArray, List.nil_append, List.cons_append]
  go_wp2_with (go_at_call 237; refine (chunk_any _ _ rfl).mono ?_; rintro e w' ⟨rfl, rfl⟩)
  have g0 : (((w.alloc (.cells #[.slice none 0 0] 23)).alloc (.cells #[.slice (some ⟨b, off, none⟩) n c] 26)).alloc (.cells #[.int .i64 8] 3)).heap.size = w.heap.size + 3 := by simp
  have g1 : Below w.heap.size w (((w.alloc (.cells #[.slice none 0 0] 23)).alloc (.cells #[.slice (some ⟨b, off, none⟩) n c] 26)).alloc (.cells #[.int .i64 8] 3)) := (((Below.refl _ _).alloc (Nat.le_refl _) _).alloc (by simp) _).alloc (by simp; omega) _
  have g2 : (((w.alloc (.cells #[.slice none 0 0] 23)).alloc (.cells #[.slice (some ⟨b, off, none⟩) n c] 26)).alloc (.cells #[.int .i64 8] 3)).heap[w.heap.size]? = some (.cells #[.slice none 0 0] 23 (0, 0)) := by
    rw [Below.heap_alloc _ _ _ (by simp; omega), Below.heap_alloc _ _ _ (by simp)]
    exact World.alloc_heap_new w _
  have g3 : (((w.alloc (.cells #[.slice none 0 0] 23)).alloc (.cells #[.slice (some ⟨b, off, none⟩) n c] 26)).alloc (.cells #[.int .i64 8] 3)).cell? ⟨w.heap.size + 1, 0, none⟩ = some (.slice (some ⟨b, off, none⟩) n c) := by
    rw [World.cell?_alloc_lt _ _ _ (by simp)]
    simp
  have g4 : (((w.alloc (.cells #[.slice none 0 0] 23)).alloc (.cells #[.slice (some ⟨b, off, none⟩) n c] 26)).alloc (.cells #[.int .i64 8] 3)).cell? ⟨w.heap.size + 1 + 1, 0, none⟩ = some (.int .i64 8) := by
    have := World.cell?_alloc_new ((w.alloc (.cells #[.slice none 0 0] 23)).alloc (.cells #[.slice (some ⟨b, off, none⟩) n c] 26)) #[.int .i64 8] 3 0
    simpa using this
  generalize (((w.alloc (.cells #[.slice none 0 0] 23)).alloc (.cells #[.slice (some ⟨b, off, none⟩) n c] 26)).alloc (.cells #[.int .i64 8] 3)) = W2 at *
  refine wp_rangeQ_fix (gf := 264) (lb := #[.pointer (some ⟨w.heap.size + 1, 0, none⟩), .pointer (some ⟨w.heap.size + 1 + 1, 0, none⟩)]) rfl (enters_of Tryz.func264 (by kernel_rfl) rfl)
    (chunk_iter (w.heap.size + 1) (w.heap.size + 1 + 1) b off n c hm hnc hc W2) (Below.refl _ _) (Nat.zero_le _) (fun _ => rfl)
    (fun H => WordsI w W2 bs H) (fun _ _ _ _ => False) (fun _ => wordsI_own (by omega)) (fun _ _ => fun _ _ _ _ h _ _ => h.elim)
    (fun H pre W hI => by
      obtain ⟨_, _, _, _, _, h5⟩ := hI
      exact ⟨(World.cell?_of_block (a := ⟨w.heap.size + 1, 0, none⟩) (h5 (w.heap.size + 1) (by omega) (by omega))).trans g3, (World.cell?_of_block (a := ⟨w.heap.size + 1 + 1, 0, none⟩) (h5 (w.heap.size + 1 + 1) (by omega) (by omega))).trans g4⟩)
    (fun H hH => ⟨.slice none 0 0, g2, World.ownsRow_nil _ _ _ _, g1, Nat.le_refl _, fun _ _ _ => rfl⟩) ?_ ?_ ?_ ?_ ?_
  rotate_left
  · intro l x W K hK
    unfold encC
    gi_wp2
    exact hK
  · rintro l' H pre x W1 hl hlH hHW _ hI hT
    obtain ⟨hpre, hxn⟩ := range_prefix_inv hT
    obtain ⟨v, h1, h2, h3, h4, h5⟩ := hI
    have hpl : pre.length = x := by rw [hpre]; simp
    obtain ⟨m, HM, hm8, hm0, hmn⟩ : ∃ m : Nat, Hid (min 8 (n - 8 * x) = m) ∧ m ≤ 8 ∧ 0 < m ∧ 8 * x + m ≤ n := ⟨_, rfl, by omega, by omega, by omega⟩
    have HY : Hid (((bs.drop (8 * x)).take 8).length = m) := by
      rw [Hid, List.length_take, List.length_drop, HN.out]; exact HM.out
    have HRY : Hid (RowAt W1 (some ⟨b, off + 8 * x, none⟩) (((bs.drop (8 * x)).take 8).map encB)) := fun _ => by
      refine ⟨b, off + 8 * x, rfl, by have := h3.size; omega, fun k u hu => ?_⟩
      have hk : k < m := by
        have := (List.getElem?_eq_some_iff.1 hu).1
        rw [List.length_map, HY.out] at this; exact this
      rw [h3.cell (p := ⟨b, off + 8 * x + k, none⟩) hb]
      obtain ⟨b', off', e, _, hc⟩ := HR.out.get (k := 8 * x + k) (u := u) (by
        rw [← hu, List.getElem?_map, List.getElem?_map, List.getElem?_take, if_pos (by omega), List.getElem?_drop])
      cases e
      rw [Nat.add_assoc]; exact hc
    rw [HM.out]
    have HW := Lib.hid (show wordAt bs x = leN ((bs.drop (8 * x)).take 8) from rfl)
    generalize (bs.drop (8 * x)).take 8 = ys at *
    rw [hpl] at h2
    have hc1 : W1.cell? ⟨w.heap.size, 0, none⟩ = some v := by rw [cell_of_row _ _ _ _ _ _ h1]; rfl
    have hf1 : W1.frozen? ⟨w.heap.size, 0, none⟩ = false := by simp [World.frozen?, h1]
    have hpre' := hpl
    clear hT hpl
    gi_wp2_with fail
    refine ⟨trivial, ?_⟩
    refine (CallsIn.inRound l' (callsIn_wide.2 (clone_any ys b (off + 8 * x) m m W1 HY.out hm0 (by omega) HRY.out))).mono ?_
    rintro e W3 ⟨g, cap, rfl, hown, hb3⟩
    gi_wp2_with fail
    refine ⟨trivial, ?_⟩
    refine (CallsIn.inRound l' (callsIn_wide.2 (reverse_any ys g m cap _ W3 (by omega) hown))).mono ?_
    rintro e W4 ⟨rfl, hown4, hgr4⟩
    gi_wp2_with fail
    have hwl : w.heap.size < W1.heap.size := by omega
    have hgl := (hown.lt g rfl).1
    have HLT := Lib.hid h2.lt
    have hvne : ∀ k, v.ownBlock = some k → H ≤ k ∧ k < W1.heap.size := fun k e => h2.lt k e
    have h14 : W4.heap[w.heap.size]? = some (.cells #[v] 23 (0, 0)) :=
      (hgr4.block w.heap.size (by have := hb3.size; omega) (by intro e; injection e with e; omega)).trans ((hb3.block w.heap.size hwl).trans h1)
    have ho4 : W4.ownsRow H 24 1 v x ((pre.map (wordAt bs)).map encW) :=
      (owns_below h2 hb3).kept hgr4 (by
        cases hv : v.ownBlock with
        | none => exact .inl rfl
        | some k => exact .inr (by intro e; injection e with e; have := (hvne k hv).2; omega))
    have hz4 : W1.heap.size ≤ W4.heap.size := Nat.le_trans hb3.size hgr4.size
    have hfold := folded_any ys.reverse (some ⟨g, 0, none⟩) m cap W4.drew (by rw [List.length_reverse]; exact HY.out) hm8 (row_of_own hown4)
    rw [List.reverse_reverse, ← HW.out] at hfold
    obtain ⟨v', W6, hr6, hown6, hgr6, _⟩ := run_append_own (P := Tryz.prog) ((W4.alloc (.cells #[.int .u64 (wordAt bs x : Nat)] 24)).drew) H 23 23 24 i0 (.int .u64 0) 1 8 Tryz.underlyingU64s hi hz0 hz1 hz2 rfl (by decide) v x ((pre.map (wordAt bs)).map encW) ((ho4.alloc _).drew) ⟨W4.heap.size, 0, none⟩ 1 1 [.int .u64 (wordAt bs x : Nat)] rfl
      (by
        intro j u hj
        match j, hj with
        | 0, hj => simp at hj; subst hj; simp [Addr.add])
      (by intro u hu; simp at hu; subst hu; rfl) (by unfold maxLen; omega) (by omega) (by simp; omega)
    obtain ⟨g', cap', rfl⟩ := ownsRow_succ hown6
    have h16 : W6.heap[w.heap.size]? = some (.cells #[v] 23 (0, 0)) := by
      refine (hgr6.block w.heap.size (by simp; omega) (fun e => ?_)).trans ?_
      · have := (hvne _ e.symm).1; omega
      · show (W4.alloc _).heap[w.heap.size]? = _
        rw [Below.heap_alloc _ _ _ (by omega)]; exact h14
    have hc6 : W6.cell? ⟨w.heap.size, 0, none⟩ = some v := by rw [cell_of_row _ _ _ _ _ _ h16]; rfl
    have hf6 : W6.frozen? ⟨w.heap.size, 0, none⟩ = false := by simp [World.frozen?, h16]
    have HK1 : Hid (∀ k, k < W1.heap.size → v.ownBlock ≠ some k → k ≠ w.heap.size → (W6.setCell ⟨w.heap.size, 0, none⟩ (.slice (some ⟨g', 0, none⟩) (x + 1) cap')).heap[k]? = W1.heap[k]?) := fun k hk hv hne => by
      rw [Below.heap_setCell _ _ _ k hne, hgr6.block k (by simp; omega) hv.symm]
      show (W4.alloc _).heap[k]? = _
      rw [Below.heap_alloc _ _ _ (by omega)]
      exact (hgr4.block k (by have := hb3.size; omega) (by intro e; injection e with e; omega)).trans (hb3.block k hk)
    have HG : Hid (Keeps W2.heap.size 0 H W1 (W6.setCell ⟨w.heap.size, 0, none⟩ (.slice (some ⟨g', 0, none⟩) (x + 1) cap')) ∧ WordsI w W2 bs H (pre ++ [x]) (W6.setCell ⟨w.heap.size, 0, none⟩ (.slice (some ⟨g', 0, none⟩) (x + 1) cap'))) := by
      have hsz7 : (W6.setCell ⟨w.heap.size, 0, none⟩ (.slice (some ⟨g', 0, none⟩) (x + 1) cap')).heap.size = W6.heap.size := by simp
      have hz6 : W1.heap.size ≤ W6.heap.size := by have := hgr6.size; simp at this; omega
      have hB6 : Below w.heap.size w W6 := (((h3.trans (hb3.mono (by omega))).grown hgr4 (by have := hb3.size; omega) (fun k e => by cases e; omega)).alloc (by omega) _).drew.grown hgr6 (by simp; omega) (fun k e => by have := (hvne k e).1; omega)
      have hL : ∀ r, (Value.slice (some ⟨g', 0, none⟩) (x + 1) cap').ownBlock = some r → H ≤ r := fun r e => (hown6.lt r e).1
      refine ⟨⟨⟨?_, ?_, ?_, by omega, fun k hk => absurd hk (by omega)⟩, fun k o hk ho hc => ?_, fun k hk hkH => ?_⟩, ?_⟩
      · show W6.os = W1.os
        rw [hB6.os, h3.os]
      · show W6.tape = W1.tape
        rw [hB6.tape, h3.tape]
      · show W6.output = W1.output
        rw [hB6.output, h3.output]
      · refine (HK1.out k (Array.getElem?_eq_some_iff.1 ho).1 (fun e => ?_) (by omega)).trans ho
        rcases h2.2 with ⟨e0, _⟩ | ⟨g0, c0, cur, e0, _, hc0, _⟩
        · rw [e0] at e; cases e
        · rw [e0] at e
          injection e with e
          rw [← e] at ho
          rw [hc0] at ho
          cases ho
          cases hc
      · exact HK1.out k (by omega) (fun e => by have := (hvne k e).1; omega) (by omega)
      · refine ⟨.slice (some ⟨g', 0, none⟩) (x + 1) cap', ?_, ?_, hB6.setCell (p := ⟨w.heap.size, 0, none⟩) (Nat.le_refl _) _, by omega, fun k hk hne => ?_⟩
        · simp [World.setCell, Array.getElem?_modify, h16]
        · rw [List.length_append, List.map_append, List.map_append, hpre', show [x].length = 1 by rfl]
          have := ownsRow_setCell_other hown6 (a := ⟨w.heap.size, 0, none⟩) (fun e => by have h' : H ≤ w.heap.size := hL _ e; omega) (.slice (some ⟨g', 0, none⟩) (x + 1) cap')
          exact this
        · rw [HK1.out k (by omega) (fun e => by have := (hvne k e).1; omega) hne]
          exact h5 k hk hne
    clear h2 h5 hown hown4 hgr4 hb3 ho4 hvne hgr6 hown6
    rename_i Q2
    have hmx : Tryz.prog.follows .mixedOrders = true := by kernel_rfl
    refine whichever_region (fun w2 => w2.cell? ⟨w.heap.size, 0, none⟩ = some v) [4, 5] hmx ?_
    have hS0 : W4.drew.cell? ⟨w.heap.size, 0, none⟩ = some v := by
      show W4.cell? _ = _
      rw [cell_of_row _ _ _ _ _ _ h14]; rfl
    refine whichever_take 0 v [4, 5] rfl (by kernel_rfl) (fun _ _ _ h => h) hS0 (by rfl) (fun w hw => ?_) ?_
    · constructor <;> go_simp
    refine whichever_take 1 (.slice (some ⟨g, 0, none⟩) m cap) [2, 3, 4, 5] rfl (by kernel_rfl) (fun _ _ _ h => h) hS0 (by rfl) (fun w hw => ?_) ?_
    · constructor <;> go_simp
    refine whichever_next 2 rfl (by kernel_rfl) (by rfl) ?_
    go_simp
    refine ⟨trivial, ?_⟩
    refine (CallsIn.inRound l' (callsIn_wide.2 hfold)).mono ?_
    rintro e w8 ⟨rfl, rfl⟩
    simp only
    refine ⟨hS0, ?_⟩
    refine whichever_next 3 rfl (by kernel_rfl) (by rfl) ?_
    go_simp
    refine ⟨by first | exact hS0 | (rw [World.cell?_alloc_lt _ _ _ (by show w.heap.size < W4.heap.size; omega)]; exact hS0), ?_⟩
    refine whichever_next 4 rfl (by kernel_rfl) (by rfl) ?_
    refine wpIn_append_run _ _ _ rfl rfl rfl hr6 ⟨fun h => absurd h (by decide), ?_⟩
    refine whichever_next 5 rfl (by kernel_rfl) (by rfl) ?_
    go_simp
    refine whichever_end (by kernel_rfl) ?_
    go_simp
    exact HG.out
  · rintro D H xs W4 hD hH hxs hI hK
    obtain ⟨v, h1, h2, h3, h4, h5⟩ := hI
    have hc1 : W4.cell? ⟨w.heap.size, 0, none⟩ = some v := by rw [cell_of_row _ _ _ _ _ _ h1]; rfl
    have hf1 : W4.frozen? ⟨w.heap.size, 0, none⟩ = false := by simp [World.frozen?, h1]
    have hxl : xs.length = (n + 7) / 8 := by rw [hxs]; simp
    have HO : Hid (W4.ownsRow w.heap.size 24 1 v ((n + 7) / 8) ((wordsN bs).map encW)) := by
      rw [hxl] at h2
      have e : wordsN bs = xs.map (wordAt bs) := by rw [wordsN, HN.out, hxs]
      rw [Hid, e]
      exact owns_base h2 (by omega)
    have HB := Lib.hid h3
    have HK := Lib.hid hK
    have hvb : v.ownBlock ≠ some w.heap.size := fun e => by have := (h2.lt _ e).1; omega
    clear h2 h3 h5 hxs hxl hK
    obtain ⟨A, cc, rfl, _, _⟩ := owns_slice HO.out
    have hcs := World.cell?_setCell_same' W4 ⟨w.heap.size, 0, none⟩ (.slice A ((n + 7) / 8) cc) (by rw [hc1]; rfl)
    have HO9 : Hid ((W4.setCell ⟨w.heap.size, 0, none⟩ (.slice A ((n + 7) / 8) cc)).ownsRow w.heap.size 24 1 (.slice A ((n + 7) / 8) cc) ((n + 7) / 8) ((wordsN bs).map encW)) := ownsRow_setCell_other HO.out (a := ⟨w.heap.size, 0, none⟩) hvb _
    have HK9 := Lib.hid ((Below.heap_setCell W4 ⟨w.heap.size, 0, none⟩ (.slice A ((n + 7) / 8) cc) D (by show D ≠ w.heap.size; omega)).trans HK.out)
    have HB9 := Lib.hid (HB.out.setCell (p := ⟨w.heap.size, 0, none⟩) (Nat.le_refl _) (.slice A ((n + 7) / 8) cc))
    go_wp2_with fail
    generalize W4.setCell ⟨w.heap.size, 0, none⟩ (.slice A ((n + 7) / 8) cc) = W9 at *
    have hcm := cell_mark HK9.out hcs
    refine ret_mark (v := .tuple #[.slice A ((n + 7) / 8) cc, .int .i64 0]) HK9.out (by simp [results, Tryz.results206, go_sem, hcm]) ⟨_, rfl, owns_ownFrom HO9.out (grownBy_putObj' _ _ _) (fun r e => by cases e; exact ⟨Nat.le_refl _, _, HK9.out, rfl⟩), below_mark HB9.out (by omega) HK9.out⟩
  · rintro D H cc pre W4 hD hH hSp h hK
    exact h.elim
end Go.Proofs.YtdpooagnbmpinaaGreatDoor

namespace Go.Proofs.YtdpooagnbmpinaaGreatDoor
open Go.RowKit

/-- A word's bytes. -/
def byteOf (a i : Nat) : UInt8 := UInt8.ofNat (a / 2 ^ (8 * i))
def byte8 (a : Nat) : List UInt8 := (List.range 8).map (byteOf a)
theorem byte8_length (a : Nat) : (byte8 a).length = 8 := by simp [byte8]
theorem byte8_take (a k : Nat) (h : k < 8) : (byte8 a).take (k + 1) = (byte8 a).take k ++ [byteOf a k] := by
  rw [byte8, ← List.map_take, ← List.map_take, List.take_range, List.take_range, Nat.min_eq_left (by omega), Nat.min_eq_left (by omega), List.range_succ, List.map_append]; rfl

set_option maxRecDepth 100000 in
set_option maxHeartbeats 2000000 in
theorem bytes8_any (a b off c : Nat) (w : World) (_ha : a < 18446744073709551616) (hc : w.cell? ⟨b, off, none⟩ = some (.int .u64 (a : Nat))) :
    Calls Tryz.prog 121 #[.slice (some ⟨b, off, none⟩) 1 c, .int .i64 8] w fun e w' => ∃ g, e = .returned (.tuple #[.slice (some ⟨g, 0, none⟩) 8 8, .int .i64 0]) ∧ w.heap.size ≤ g ∧ RowAt w' (some ⟨g, 0, none⟩) ((byte8 a).map encB) ∧ Below w.heap.size w w' := by
  obtain ⟨i0, hi, hz0, hz1, hz2⟩ := info_parts Tryz.infoU8
  have hbw : b < w.heap.size := World.block_lt_of_cell? w ⟨b, off, none⟩ hc
  go_enter Tryz.func121, Tryz.ntmps121
  go_wp2_with fail
  apply wp_scope_straight
  go_wp2_with go_step3
  refine wp_loop_rounds 2 ?_
  rw [rounds_succ]
  go_wp2_with fail
  go_loopw [4, 36] (fun v i wr => ∃ k : Nat, k ≤ 8 ∧ i = .int .i64 k ∧ wr.ownsRow w.heap.size 5 1 v k (((byte8 a).take k).map encB) ∧ Below w.heap.size w wr) (fun _ i _ => 8 - (intOf i).toNat)
  case atStart => exact ⟨0, Nat.zero_le _, rfl, World.ownsRow_nil _ _ _ _, Below.refl _ _⟩
  case round =>
    obtain ⟨k, hk, rfl, hown, hb⟩ := hrel
    by_cases hlt : k < 8
    · have HTS := Lib.hid (byte8_take a k hlt)
      have hsz := hb.size
      have HLT := Lib.hid hown.lt
      have HOWN := Lib.hid hown
      have HB := Lib.hid hb
      have hx : (a : Int) / 2 ^ (8 * k) % 256 = ((byteOf a k).toNat : Nat) := by
        have e : ((a : Int) / 2 ^ (8 * k) % 256) = ((a / 2 ^ (8 * k) % 256 : Nat) : Int) := by
          have h2 : ((2 : Int) ^ (8 * k)) = ((2 ^ (8 * k) : Nat) : Int) := by simp
          rw [h2]; exact_mod_cast rfl
        rw [e, byteOf]; simp
      have HE : Hid (encB (byteOf a k) = .int .u8 ((byteOf a k).toNat : Nat)) := rfl
      generalize (byteOf a k).toNat = y at *
      clear hown hb
      go_wp2_with (at_builtin; refine wpList_append_own _ rfl _ _ 26 rfl w.heap.size 5 i0 (.int .u8 0) 1 1 Tryz.underlyingBytes hi hz0 hz1 hz2 rfl (by decide) _ _ _ rfl (HOWN.out.alloc _) ⟨wr.heap.size, 0, none⟩ 1 1 [.int .u8 y] rfl rfl ?c1 ?c2 ?c3 ?c4 ?c5 ?_)
      case c1 =>
        intro j u hj
        match j, hj with
        | 0, hj => simp at hj; subst hj; simp [Addr.add]
      case c2 => intro u hu; simp at hu; subst hu; rfl
      case c3 => unfold maxLen; omega
      case c4 => omega
      case c5 => simp; omega
      intro v' w1 hown' hgrow _
      have hb1 : Below w.heap.size w w1 := (HB.out.alloc hsz _).grown hgrow (by simp; omega) (fun j e => (HLT.out j e).1)
      have HO1 : Hid (w1.ownsRow w.heap.size 5 1 v' (k + 1) (((byte8 a).take (k + 1)).map encB)) := by
        rw [Hid, HTS.out, List.map_append, List.map_cons, HE.out, List.map_take]; exact hown'
      clear hgrow hown' HOWN HB HLT hx
      go_wp2_with fail
      go_roundw
      case rel => exact ⟨k + 1, by omega, by go_num, HO1.out, hb1⟩
      case measure => simp [intOf]; omega
    · have hk8 : k = 8 := by omega
      subst hk8
      rw [List.take_of_length_le (by rw [byte8_length]; omega)] at hown
      obtain ⟨g, cap, rfl⟩ := ownsRow_succ hown
      obtain ⟨A', cc, e, h8c, hcm⟩ := owns_slice hown
      injection e with eA _ e
      subst eA
      subst e
      have HR := Lib.hid (row_of_own hown)
      have hg := (hown.lt g rfl)
      have HB := Lib.hid hb
      have HCF := Lib.hid (fun A cc W => AnyE.slices_ContainsFunc_empty Tryz.containsByte A cc (.func (.func 180) #[] #[]) W)
      clear hown hb
      by_cases hcap : cap = 8
      · subst hcap
        go_wp2_with fail
        rw [rounds_succ]
        go_wp2_with (first | go_step3 | (go_at_call 122; refine (HCF.out _ _ _).mono ?_; rintro e w' ⟨rfl, rfl⟩))
        rw [Exit.noGoto_ret]
        go_ret2
        exact ⟨g, rfl, hg.1, HR.out, HB.out⟩
      · have hc2 : (cap == 8) = false := by rw [beq_eq_false_iff_ne]; exact hcap
        have hc3 : ¬ cap ≤ 8 := by omega
        go_wp2_with fail
        rw [rounds_succ]
        go_wp2_with (first | go_step3 | (go_at_call 122; refine (HCF.out _ _ _).mono ?_; rintro e w' ⟨rfl, rfl⟩))
        rw [Exit.noGoto_ret]
        go_ret2
        exact ⟨g, rfl, hg.1, HR.out, HB.out⟩
end Go.Proofs.YtdpooagnbmpinaaGreatDoor
