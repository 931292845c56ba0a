/- The law PathSplits as a call. Conditions: none. -/
import Derived.Test.YtkhpdlaljepkjaaDoorL6
namespace Go.Proofs.YtkhpdlaljepkjaaDoor
open Go.RowKit Go.Shelf
attribute [local go_sem] Oper.semAt_some

theorem ret_mark2 {P : Program} {fn : Func} {R : Ending → World → Prop} {tmps : Array Value} {W : World} {D E : Nat} {v : Value}
    (hK : W.heap[D]? = some (.deferred (some []))) (hE : W.heap[E]? = some (.deferred (some []))) (hne : E ≠ D) (hr : (results fn tmps).run P ((W.putObj D (.deferred none)).putObj E (.deferred none)) = .ok v ((W.putObj D (.deferred none)).putObj E (.deferred none)))
    (h : R (.returned v) ((W.putObj D (.deferred none)).putObj E (.deferred none))) : bodyPostM Fence.wide 9 P fn R .ret { tmps := tmps, defers := [{ target := .collected D, args := #[] }, { target := .collected E, args := #[] }] } W :=
  ⟨by simp, .inl ⟨_, _, rfl, run_takeDeferred hK, ⟨by simp, .inl ⟨_, _, rfl, run_takeDeferred ((World.putObj_heap_other hne).trans hE), ⟨_, hr, h⟩⟩⟩⟩⟩

section
variable {P : Program}
/-- A range over a function whose end and whose break come to one place. -/
theorem wp_range_join {α : Type} {g : Operand} {ps : Array Tmp} {assign body : Code} {Q : Exit → Act → World → Prop} {a : Act} {w : World} (id : Nat)
    {gf : Nat} {lb : Array Value} (hg : a.eval g = .func (.func gf) #[] lb) (eg : ∀ args w, (callFunc gf args).run P w = .ok (.enter gf args) w)
    {encs : α → Array Value} {n₀ : Nat} {S Sp : List α → Prop} {T : List α → α → Prop} {w0 : World} (hseq : Iter P gf lb encs n₀ S Sp T w0)
    (hb0 : Below w0.heap.size w0 w) (hn₀ : n₀ ≤ w.heap.size) (hps : ∀ x, (encs x).size = ps.size)
    (I : List α → World → Prop) (Ix : List α → World → Prop) (J : List α → World → Prop) (hI : OwnFrom w.heap.size I) (hIx : OwnFrom w.heap.size Ix) (h0 : I [] w) (A : α → Act)
    (hassign : ∀ (l : Nat) (x : α) (W : World) (K : Act → World → Prop), K (A x) W →
      assign.wpIn (Fence.wide.inRound l) 9 P (Exit.then K (fun _ _ _ => False)) { tmps := (ps.zip (encs x)).foldl (fun t (p, v) => t.setIfInBounds p v) a.tmps, defers := [] } W)
    (hbody : ∀ (l H : Nat) (pre : List α) (x : α) (W : World), w.heap.size ≤ l → l < H → H ≤ W.heap.size → (∃ r, W.heap[l]? = some (.loop r)) → I pre W → T pre x → body.wpIn (Fence.wide.inRound l) 9 P (bodyEnd w.heap.size n₀ H I (fun c pre W => c = .exit id ∧ Ix pre W) (pre ++ [x]) W) (A x) W)
    (hJd : ∀ xs W, S xs → I xs W → J xs W) (hJs : ∀ pre W, Sp pre → Ix pre W → J pre W) (hsame : ∀ a W, Q .normal a W → Q (.exit id) a W)
    (hgo : ∀ (D : Nat) (xs : List α) (W : World), w.heap.size ≤ D → W.heap[D]? = some (.deferred (some [])) → J xs W → Q .normal { a with defers := { target := .collected D, args := #[] } :: a.defers } W) :
    (Code.rangeFunc g ps assign body).wp P Q a w :=
  wp_range_fix hg eg hseq hb0 hn₀ hps (fun _ => I) (fun _ c pre W => c = .exit id ∧ Ix pre W) (fun _ => hI) (fun _ _ => fun s A B row hs hg hr => ⟨hs.1, hIx s A B row hs.2 hg hr⟩) (fun _ _ => h0) A hassign hbody
    (fun D _ xs W hD _ hs hi hK => hgo D xs W hD hK (hJd xs W hs hi))
    (fun D _ c pre W hD _ hs hi hK => by obtain ⟨rfl, hi⟩ := hi; exact wp_exit (hsame _ _ (hgo D pre W hD hK (hJs pre W hs hi))))
end

/-- A turn that goes on; one that is broken off. -/
def Early (t : Int) (n : Nat) : Prop := n = 0 ∨ (n : Int) < t
def Broke (t : Int) (N n : Nat) : Prop := n ≤ N ∧ ((n = 1 ∧ t ≤ 1) ∨ (1 < t ∧ (n : Int) = t))
/-- How many come in the first turn. -/
def Came (t : Int) (N q : Nat) : Prop := (N = 0 ∧ q = 0 ∧ t ≤ 1) ∨ (N = 0 ∧ q = 0 ∧ 1 < t) ∨ (0 < N ∧ (N : Int) < t ∧ 1 < t ∧ q = N) ∨ (q = 1 ∧ t ≤ 1 ∧ 1 ≤ N) ∨ (1 < t ∧ t = (q : Int) ∧ q ≤ N)
theorem came_done {t : Int} {N : Nat} (h : Early t N) : Came t N N := by unfold Early at h; unfold Came; omega
theorem came_broke {t : Int} {N n : Nat} (h : Broke t N n) : Came t N n := by unfold Broke at h; unfold Came; omega
/-- What a turn keeps: n cell, and all that lay before but that. -/
def TurnI (W0 W3 : World) (Bn : Nat) (pre : List (Nat × List UInt8)) (Wx : World) : Prop :=
  Wx.cell? ⟨Bn, 0, none⟩ = some (.int .i64 (pre.length : Nat)) ∧ Wx.frozen? ⟨Bn, 0, none⟩ = false ∧ Below W0.heap.size W0 Wx ∧ W3.heap.size ≤ Wx.heap.size ∧ ∀ k, k < W3.heap.size → k ≠ Bn → Wx.heap[k]? = W3.heap[k]?
theorem turnI_own {W0 W3 : World} {Bn : Nat} (hB : Bn < W3.heap.size) (hW : W0.heap.size ≤ W3.heap.size) (p : List (Nat × List UInt8) → Prop) : OwnFrom W3.heap.size (fun pre Wx => TurnI W0 W3 Bn pre Wx ∧ p pre) := fun _ X Y row hs hg hr => by
  obtain ⟨⟨h1, h2, h5, hsz, h7⟩, hp⟩ := hs
  have hk : ∀ k, k < W3.heap.size → Y.heap[k]? = X.heap[k]? := fun k hk => hg.block k (by omega) (fun e => by have := (hr _ e.symm).1; omega)
  exact ⟨⟨(World.cell?_of_block (hk _ hB)).trans h1, (World.frozen?_of_block (hk _ hB)).trans h2,
    h5.grown hg h5.size (fun k e => by have := (hr k e).1; omega), Nat.le_trans hsz hg.size, fun k h1 h2 => (hk k h1).trans (h7 k h1 h2)⟩, hp⟩
/-- The next one. -/
theorem turnI_next {W0 W3 W1 : World} {Bn H : Nat} {pre : List (Nat × List UInt8)} {x : Nat × List UInt8} (h : TurnI W0 W3 Bn pre W1) (hB : Bn < W3.heap.size) (hW : W0.heap.size ≤ Bn) :
    Keeps W3.heap.size 0 H W1 (W1.setCell ⟨Bn, 0, none⟩ (.int .i64 ((pre.length : Int) + 1))) ∧ TurnI W0 W3 Bn (pre ++ [x]) (W1.setCell ⟨Bn, 0, none⟩ (.int .i64 ((pre.length : Int) + 1))) := by
  obtain ⟨h1, h2, h5, hsz, h7⟩ := h
  have hle : (pre ++ [x]).length = pre.length + 1 := by simp
  refine ⟨Keeps.setCell W1 _ _ (Nat.zero_le _) (.inl hB), ?_, ?_, ?_, ?_, ?_⟩
  · rw [World.cell?_setCell_same' _ _ _ (by rw [h1]; rfl), hle]; simp
  · simpa using h2
  · exact h5.setCell (p := ⟨Bn, 0, none⟩) hW _
  · simpa using hsz
  · exact fun k hk1 hk2 => (Below.heap_setCell _ _ _ k hk2).trans (h7 k hk1 hk2)
theorem prefN_len (l : List (List UInt8)) {pre : List (Nat × List UInt8)} {x : Nat × List UInt8} (h : pre ++ [x] <+: prefN l) : x = prefOf l pre.length ∧ pre.length < (prefN l).length := by
  unfold prefN at h ⊢
  by_cases e : l = []
  · rw [if_pos e] at h
    obtain ⟨t, ht⟩ := h
    simp at ht
  · rw [if_neg e] at h ⊢
    obtain ⟨h1, h2⟩ := map_prefix_inv h
    exact ⟨h1, by simpa using h2⟩
theorem prefT_len (l : List (List UInt8)) : (prefT l).length = (prefN l).length := by rw [prefT, List.length_map]
theorem prefT_get (l : List (List UInt8)) {k : Nat} (h : k < (prefN l).length) : ((prefT l).map fun x => Value.string (ofBytes x))[k]? = some (.string (ofBytes (textP (l.take k)))) := by
  unfold prefT prefN at *
  by_cases e : l = []
  · rw [if_pos e] at h; simp at h
  · rw [if_neg e] at h ⊢
    rw [List.length_map, List.length_range] at h
    rw [List.map_map, List.map_map, List.getElem?_map, List.getElem?_range h]; rfl

set_option maxRecDepth 400000 in
set_option maxHeartbeats 4000000 in
theorem law_splits (s : ByteArray) (t : Int) (w : World) (hs : s.size < 140737488355328) (ht : (Lit.int .i64 t).wf = true) :
    Calls Tryd.prog 3 #[.string s, .int .i64 t] w fun e w' => e = .returned (.bool true) ∧ Below w.heap.size w w' := by
  have HWK := Lib.hid works_any
  have HT := Lib.hid ht
  clear ht
  refine calls_of_wp_marks Tryd.func3 rfl ?_
  simp only [Tryd.ntmps3, List.size_toArray, List.length_cons, List.length_nil, Nat.reduceAdd, Nat.reduceSub, Array.replicate_succ, Array.replicate_zero, List.push_toArray, List.append_toArray, List.nil_append, List.cons_append]
  by_cases h1 : 300 < s.size
  · go_wp2_with fail
    refine (HWK.out _).mono ?_
    rintro e w' ⟨rfl, hb⟩
    have hc0 : w'.cell? ⟨w.heap.size + 1, 0, none⟩ = some (.bool false) := (hb.cell (p := ⟨w.heap.size + 1, 0, none⟩) (by simp)).trans (by simp)
    have hcs : (w'.setCell ⟨w.heap.size + 1, 0, none⟩ (.bool true)).cell? ⟨w.heap.size + 1, 0, none⟩ = some (.bool true) := World.cell?_setCell_same' _ _ _ (by rw [hc0]; rfl)
    have hf0 : w'.frozen? ⟨w.heap.size + 1, 0, none⟩ = false := (hb.frozen (p := ⟨w.heap.size + 1, 0, none⟩) (by simp)).trans (by simp)
    have HB := Lib.hid (below_trans (((Below.refl _ w).alloc (Nat.le_refl _) _).alloc (by simp) _) hb)
    clear hb
    go_wp2_with fail
    refine ret_plain (v := .bool true) (by simp [results, Tryd.results3, go_sem, hcs]) ⟨rfl, HB.out.setCell (p := ⟨w.heap.size + 1, 0, none⟩) (by show w.heap.size ≤ w.heap.size + 1; omega) _⟩
  · have HC1 := Lib.hid (psplit_to (s := s) (z := (readP (bytesOf s)).1) (l := (readP (bytesOf s)).2) rfl (by omega))
    have HC2 : Hid (∀ W, Calls Tryd.prog 12 #[.string s] W fun e W' => ∃ A c, e = .returned (.tuple #[.slice A (readP (bytesOf s)).2.length c, .int .i64 (readP (bytesOf s)).1]) ∧ c ≤ maxLen ∧ Hid (RowAt W' A ((readP (bytesOf s)).2.map fun x => .string (ofBytes x))) ∧ Below W.heap.size W W') := fun W => by
      refine (refsplit_any s W (by omega)).mono ?_
      rintro e W' ⟨v, rfl, ⟨A, c, rfl, h1, h2, h3⟩, hb, _⟩
      exact ⟨A, c, rfl, h2, h3, hb⟩
    have HP1 := Lib.hid (fun W => parent_any s W (by omega))
    have HP2 := Lib.hid (fun W => refparent_any s W (by omega))
    have HPF := Lib.hid (fun W => refprefixes_any s W (by omega))
    have HIT := Lib.hid (fun Bn w hB hc => prefixes_iter Bn s (by omega) w hB hc)
    have HTX : Hid (∀ W A B c d, RowAt W A ((readP (bytesOf s)).2.map fun x => .string (ofBytes x)) → RowAt W B ((readP (bytesOf s)).2.map fun x => .string (ofBytes x)) → Calls Tryd.prog 14 #[.slice A (readP (bytesOf s)).2.length c, .slice B (readP (bytesOf s)).2.length d] W fun e W' => e = .returned (.bool true) ∧ Below W.heap.size W W') := fun W A B c d hA hB => by
      have h16 : (readP (bytesOf s)).2.length ≤ maxLen := by
        rcases readP_cases (bytesOf s) with ⟨_, hf, _⟩ | ⟨_, e⟩
        · have := hf.1; unfold maxLen; omega
        · rw [e]; exact Nat.zero_le _
      have := texts_any ((readP (bytesOf s)).2.map ofBytes) ((readP (bytesOf s)).2.map ofBytes) A B _ _ c d W (by rw [List.length_map]) (by rw [List.length_map]) h16 (by rw [List.map_map]; exact hA) (by rw [List.map_map]; exact hB)
      rw [show eqL ((readP (bytesOf s)).2.map ofBytes) ((readP (bytesOf s)).2.map ofBytes) = true by simp [eqL]] at this
      exact this
    have hN17 : (prefN (readP (bytesOf s)).2).length ≤ 17 := by
      unfold prefN
      split
      · simp
      · rw [List.length_map, List.length_range]
        rcases readP_cases (bytesOf s) with ⟨_, hf, _⟩ | ⟨_, e⟩
        · have := hf.1; omega
        · rw [e]; simp
    unfold ParentPost at HP1 HP2
    unfold PrefPost at HPF
    generalize parentP (bytesOf s) = pp at *
    obtain ⟨pa, la, zp⟩ := pp
    generalize readP (bytesOf s) = rp at *
    obtain ⟨z, l⟩ := rp
    simp only at HC1 HC2 HP1 HP2 HPF HIT HTX hN17
    obtain ⟨n, HNL⟩ : ∃ n : Nat, Hid (l.length = n) := ⟨_, rfl⟩
    rw [HNL.out] at HC1 HC2 HTX
    go_wp2_with fail
    refine (HC1.out _).mono ?_
    rintro e w1 ⟨A1, c1, rfl, hc1, hm1, HR1, hb1⟩
    go_wp2_with fail
    refine (HP1.out _).mono ?_
    rintro e w2 ⟨rfl, hb2⟩
    go_wp2_with fail
    refine (HC2.out _).mono ?_
    rintro e w3 ⟨A3, c3, rfl, hm3, HR3, hb3⟩
    go_wp2_with fail
    refine (HP2.out _).mono ?_
    rintro e w4 ⟨rfl, hb4⟩
    have HR14 := Lib.hid (((HR1.out.below hb2).below hb3).below hb4)
    have HR34 := Lib.hid (HR3.out.below hb4)
    have hB4 := below_trans (below_trans (below_trans hb1 hb2) hb3) hb4
    have HB4 := Lib.hid hB4
    clear hB4 hb1 hb2 hb3 hb4 HR1 HR3
    go_wp2_with fail
    refine (HTX.out _ _ _ _ _ HR14.out HR34.out).mono ?_
    rintro e w5 ⟨rfl, hb5⟩
    have HB5 := Lib.hid (below_trans HB4.out hb5)
    clear hb5
    go_wp2_with (go_at_call 15; refine (num_any _ _).mono ?_; rintro e w2 ⟨rfl, rfl⟩)
    refine (HPF.out _).mono ?_
    rintro e w6 ⟨v6, rfl, ⟨Aw, cw, rfl, hwl, hwm, HRw⟩, hb6⟩
    have hB6 := below_trans HB5.out hb6
    have HWA : Hid (Below w.heap.size w ((w.alloc (.cells #[.int .i64 t] 3)).alloc (.cells #[.bool false] 4))) := ((Below.refl _ w).alloc (Nat.le_refl _) _).alloc (by simp) _
    have hs6 : w.heap.size + 2 ≤ w6.heap.size := by have := hB6.size; simp at this; omega
    have hcm6 : w6.cell? ⟨w.heap.size, 0, none⟩ = some (.int .i64 t) := (hB6.cell (p := ⟨w.heap.size, 0, none⟩) (by simp; omega)).trans (by rw [World.cell?_alloc_lt _ _ _ (by simp)]; simp)
    have hcr6 : w6.cell? ⟨w.heap.size + 1, 0, none⟩ = some (.bool false) := (hB6.cell (p := ⟨w.heap.size + 1, 0, none⟩) (by simp)).trans (by simp)
    have hfr6 : w6.frozen? ⟨w.heap.size + 1, 0, none⟩ = false := (hB6.frozen (p := ⟨w.heap.size + 1, 0, none⟩) (by simp)).trans (by simp)
    have HB6 := Lib.hid (below_trans HWA.out hB6)
    rw [prefT_len] at hwl ⊢
    obtain ⟨N, HN⟩ : ∃ N : Nat, Hid ((prefN l).length = N) := ⟨_, rfl⟩
    rw [HN.out] at hwl hN17 ⊢
    have HRW := Lib.hid HRw
    clear hB6 hb6 HRw
    go_wp2_with (go_at_call 17; refine (prefixes_any _ _).mono ?_; rintro e w' ⟨rfl, rfl⟩)
    have g1 : Below w6.heap.size w6 (((w6.alloc (.cells #[.slice Aw N cw] 23)).alloc (.cells #[.string s] 9)).alloc (.cells #[.int .i64 0] 3)) := (((Below.refl _ _).alloc (Nat.le_refl _) _).alloc (by simp) _).alloc (by simp; omega) _
    have g2 : (((w6.alloc (.cells #[.slice Aw N cw] 23)).alloc (.cells #[.string s] 9)).alloc (.cells #[.int .i64 0] 3)).cell? ⟨w6.heap.size, 0, none⟩ = some (.slice Aw N cw) := by
      rw [World.cell?_alloc_lt _ _ _ (by simp; omega), World.cell?_alloc_lt _ _ _ (by simp)]
      simp
    have g3 : (((w6.alloc (.cells #[.slice Aw N cw] 23)).alloc (.cells #[.string s] 9)).alloc (.cells #[.int .i64 0] 3)).cell? ⟨w6.heap.size + 1, 0, none⟩ = some (.string s) := by
      rw [World.cell?_alloc_lt _ _ _ (by simp)]
      simp
    have g4 : (((w6.alloc (.cells #[.slice Aw N cw] 23)).alloc (.cells #[.string s] 9)).alloc (.cells #[.int .i64 0] 3)).cell? ⟨w6.heap.size + 1 + 1, 0, none⟩ = some (.int .i64 0) := by
      have := World.cell?_alloc_new ((w6.alloc (.cells #[.slice Aw N cw] 23)).alloc (.cells #[.string s] 9)) #[.int .i64 0] 3 0
      simpa using this
    have g5 : (((w6.alloc (.cells #[.slice Aw N cw] 23)).alloc (.cells #[.string s] 9)).alloc (.cells #[.int .i64 0] 3)).frozen? ⟨w6.heap.size + 1 + 1, 0, none⟩ = false := by
      have := World.frozen?_alloc_at (w := (w6.alloc (.cells #[.slice Aw N cw] 23)).alloc (.cells #[.string s] 9)) #[.int .i64 0] 3 (w6.heap.size + 1 + 1) 0 (by simp)
      exact this
    have g6 : (((w6.alloc (.cells #[.slice Aw N cw] 23)).alloc (.cells #[.string s] 9)).alloc (.cells #[.int .i64 0] 3)).heap.size = w6.heap.size + 3 := by simp
    generalize (((w6.alloc (.cells #[.slice Aw N cw] 23)).alloc (.cells #[.string s] 9)).alloc (.cells #[.int .i64 0] 3)) = W2 at *
    have cm2 := (g1.cell (p := ⟨w.heap.size, 0, none⟩) (by show w.heap.size < w6.heap.size; omega)).trans hcm6
    have cr2 := (g1.cell (p := ⟨w.heap.size + 1, 0, none⟩) (by show w.heap.size + 1 < w6.heap.size; omega)).trans hcr6
    have fr2 := (g1.frozen (p := ⟨w.heap.size + 1, 0, none⟩) (by show w.heap.size + 1 < w6.heap.size; omega)).trans hfr6
    have HB2 := Lib.hid (below_trans HB6.out g1)
    have HG1 := Lib.hid g1
    clear g1 hcm6 hcr6 hfr6
    refine wp_loop_rounds 3 ?_
    rw [rounds_succ]
    go_wp2_with fail
    rename_i K1 hK1 K2 hK2 K3 hK3
    have HK1 := Lib.hid hK1
    have HK2 := Lib.hid hK2
    have HK3 := Lib.hid hK3
    clear hK1 hK2 hK3
    have k1 : Below W2.heap.size W2 (W2.alloc (.cells #[.int .i64 0] 3)) := (Below.refl _ _).alloc (Nat.le_refl _) _
    have k2 : (W2.alloc (.cells #[.int .i64 0] 3)).cell? ⟨w6.heap.size + 3, 0, none⟩ = some (.int .i64 0) := by
      have := World.cell?_alloc_new W2 #[.int .i64 0] 3 0
      rw [g6] at this; simpa using this
    have k3 : (W2.alloc (.cells #[.int .i64 0] 3)).frozen? ⟨w6.heap.size + 3, 0, none⟩ = false := by
      have := World.frozen?_alloc_at (w := W2) #[.int .i64 0] 3 (w6.heap.size + 3) 0 (by omega)
      exact this
    have k4 : (W2.alloc (.cells #[.int .i64 0] 3)).heap.size = w6.heap.size + 4 := by simp; omega
    generalize (W2.alloc (.cells #[.int .i64 0] 3)) = W3 at *
    have cm3 := (k1.cell (p := ⟨w.heap.size, 0, none⟩) (by show w.heap.size < W2.heap.size; omega)).trans cm2
    have cr3 := (k1.cell (p := ⟨w.heap.size + 1, 0, none⟩) (by show w.heap.size + 1 < W2.heap.size; omega)).trans cr2
    have fr3 := (k1.frozen (p := ⟨w.heap.size + 1, 0, none⟩) (by show w.heap.size + 1 < W2.heap.size; omega)).trans fr2
    have cw3 := (k1.cell (p := ⟨w6.heap.size, 0, none⟩) (by show w6.heap.size < W2.heap.size; omega)).trans g2
    have cs3 := (k1.cell (p := ⟨w6.heap.size + 1, 0, none⟩) (by show w6.heap.size + 1 < W2.heap.size; omega)).trans g3
    have ct3 := (k1.cell (p := ⟨w6.heap.size + 1 + 1, 0, none⟩) (by show w6.heap.size + 1 + 1 < W2.heap.size; omega)).trans g4
    have ft3 := (k1.frozen (p := ⟨w6.heap.size + 1 + 1, 0, none⟩) (by show w6.heap.size + 1 + 1 < W2.heap.size; omega)).trans g5
    have HB3 := Lib.hid (below_trans HB2.out k1)
    have HG3 := Lib.hid (below_trans HG1.out k1)
    have H03 : Hid (TurnI w W3 (w6.heap.size + 3) [] W3) := ⟨k2, k3, HB3.out, Nat.le_refl _, fun _ _ _ => rfl⟩
    clear cm2 cr2 fr2 g2 g3 g4 g5 g6 k1 k2 k3 HB2 HG1
    refine wp_range_join 2 (gf := 26) (lb := #[.pointer (some ⟨w6.heap.size + 1, 0, none⟩)]) rfl (enters_of Tryd.func26 (by kernel_rfl) rfl)
      (HIT.out (w6.heap.size + 1) W3 (by omega) cs3) (Below.refl _ _) (Nat.zero_le _) (fun _ => rfl)
      (fun pre Wx => TurnI w W3 (w6.heap.size + 3) pre Wx ∧ Early t pre.length) (fun pre Wx => TurnI w W3 (w6.heap.size + 3) pre Wx ∧ Broke t N pre.length) (fun pre Wx => TurnI w W3 (w6.heap.size + 3) pre Wx ∧ Came t N pre.length)
      (turnI_own (by omega) (by omega) _) (turnI_own (by omega) (by omega) _) ⟨H03.out, .inl rfl⟩ ?_ ?_ ?_ ?_ ?_ (fun _ _ h => h) ?_
    rotate_left
    · intro l x W K hK
      unfold encPref
      gi_wp2
      exact hK
    · rintro l' H pre x W1 hl hlH hHW _ ⟨hI, hlen0⟩ hlen
      obtain ⟨hx, hkN⟩ := prefN_len l hlen
      have hgt := prefT_get l hkN
      rw [HN.out] at hkN
      subst hx
      have HNX := Lib.hid (turnI_next (H := H) (x := prefOf l pre.length) hI (by omega) (by omega))
      obtain ⟨h1, h2, h5, h6, h7⟩ := hI
      obtain ⟨b, off, rfl, hbw, hbc⟩ := HRW.out.get hgt
      have hcw : W1.cell? ⟨b, off + pre.length, none⟩ = some (.string (ofBytes (textP (l.take pre.length)))) :=
        ((World.cell?_of_block (h7 b (by omega) (by omega))).trans (HG3.out.cell (p := ⟨b, off + pre.length, none⟩) hbw)).trans hbc
      have cm := (World.cell?_of_block (a := ⟨w.heap.size, 0, none⟩) (h7 w.heap.size (by omega) (by omega))).trans cm3
      have cw := (World.cell?_of_block (a := ⟨w6.heap.size, 0, none⟩) (h7 w6.heap.size (by omega) (by omega))).trans cw3
      have ct := (World.cell?_of_block (a := ⟨w6.heap.size + 1 + 1, 0, none⟩) (h7 (w6.heap.size + 1 + 1) (by omega) (by omega))).trans ct3
      clear hlen hgt hbc h7 h5 cm3 cw3 ct3 cs3 cr3
      have hle : (pre ++ [prefOf l pre.length]).length = pre.length + 1 := by simp
      have HLE := Lib.hid hle
      clear hle
      unfold prefOf
      have HPR : Hid ((pre.length, textP (l.take pre.length)) = prefOf l pre.length) := rfl
      by_cases hq : t ≤ (pre.length : Int) + 1
      · have HG : Hid (∀ a', bodyEnd W3.heap.size 0 H (fun pre Wx => TurnI w W3 (w6.heap.size + 3) pre Wx ∧ Early t pre.length) (fun c pre Wx => c = .exit 2 ∧ TurnI w W3 (w6.heap.size + 3) pre Wx ∧ Broke t N pre.length) (pre ++ [prefOf l pre.length]) W1 (.exit 2) a' (W1.setCell ⟨w6.heap.size + 3, 0, none⟩ (.int .i64 ((pre.length : Int) + 1)))) := fun _ =>
          ⟨HNX.out.1, rfl, HNX.out.2, by rw [HLE.out]; omega, by rw [HLE.out]; unfold Early at hlen0; omega⟩
        clear HNX HLE k4
        generalize pre.length = q at *
        gi_wp2
        exact HG.out _
      · have HG : Hid (∀ a', bodyEnd W3.heap.size 0 H (fun pre Wx => TurnI w W3 (w6.heap.size + 3) pre Wx ∧ Early t pre.length) (fun c pre Wx => c = .exit 2 ∧ TurnI w W3 (w6.heap.size + 3) pre Wx ∧ Broke t N pre.length) (pre ++ [prefOf l pre.length]) W1 .normal a' (W1.setCell ⟨w6.heap.size + 3, 0, none⟩ (.int .i64 ((pre.length : Int) + 1)))) := fun _ =>
          ⟨HNX.out.1, HNX.out.2, by rw [HLE.out]; unfold Early; omega⟩
        clear HNX HLE k4
        generalize pre.length = q at *
        gi_wp2
        exact HG.out _
    · rintro xs W hxs ⟨hI, he⟩
      have e : xs.length = N := by rw [hxs, HN.out]
      rw [e] at he ⊢
      exact ⟨hI, came_done he⟩
    · rintro xs W _ ⟨hI, he⟩
      exact ⟨hI, came_broke he⟩
    · rintro D xs W4 hD hK ⟨hI, hca⟩
      obtain ⟨q, HQ⟩ : ∃ q : Nat, Hid (xs.length = q) := ⟨_, rfl⟩
      obtain ⟨h1, h2, h5, h6, h7⟩ := hI
      rw [HQ.out] at h1 hca
      have hqc := hca
      unfold Came at hqc
      clear hca HQ
      have cm4 := (World.cell?_of_block (a := ⟨w.heap.size, 0, none⟩) (h7 w.heap.size (by omega) (by omega))).trans cm3
      have cr4 := (World.cell?_of_block (a := ⟨w.heap.size + 1, 0, none⟩) (h7 (w.heap.size + 1) (by omega) (by omega))).trans cr3
      have fr4 := (World.frozen?_of_block (a := ⟨w.heap.size + 1, 0, none⟩) (h7 (w.heap.size + 1) (by omega) (by omega))).trans fr3
      have cw4 := (World.cell?_of_block (a := ⟨w6.heap.size, 0, none⟩) (h7 w6.heap.size (by omega) (by omega))).trans cw3
      have cs4 := (World.cell?_of_block (a := ⟨w6.heap.size + 1, 0, none⟩) (h7 (w6.heap.size + 1) (by omega) (by omega))).trans cs3
      have ct4 := (World.cell?_of_block (a := ⟨w6.heap.size + 1 + 1, 0, none⟩) (h7 (w6.heap.size + 1 + 1) (by omega) (by omega))).trans ct3
      have HB4x := Lib.hid h5
      have HG4 : Hid (Below w6.heap.size w6 W4) := ⟨(h5.os.trans HB6.out.os.symm), (h5.tape.trans HB6.out.tape.symm), (h5.output.trans HB6.out.output.symm), by omega, fun k hk => (h7 k (by omega) (by omega)).trans (HG3.out.block k hk)⟩
      have HKD := Lib.hid hK
      clear h2 h5 h7 hK cm3 cr3 fr3 cw3 cs3 ct3 ft3
      have hmm : ((q : Int) != min (N : Int) (max 1 t)) = false := by
        rw [bne_eq_false_iff_eq]; omega
      have hW4 : W3.heap.size ≤ W4.heap.size := h6
      clear hqc h6
      go_simp
      refine HK3.out _ _ ?_
      go_wp2_with fail
      refine HK2.out _ _ ?_
      go_wp2_with fail
      rw [rounds_succ]
      go_wp2_with fail
      have j1 : Below W4.heap.size W4 ((W4.alloc (.cells #[.int .i64 1] 3)).alloc (.cells #[.int .i64 0] 3)) := ((Below.refl _ _).alloc (Nat.le_refl _) _).alloc (by simp) _
      have j2 : ((W4.alloc (.cells #[.int .i64 1] 3)).alloc (.cells #[.int .i64 0] 3)).cell? ⟨W4.heap.size, 0, none⟩ = some (.int .i64 1) := by
        rw [World.cell?_alloc_lt _ _ _ (by simp)]
        simp
      have j3 : ((W4.alloc (.cells #[.int .i64 1] 3)).alloc (.cells #[.int .i64 0] 3)).cell? ⟨W4.heap.size + 1, 0, none⟩ = some (.int .i64 0) := by
        simp
      have j4 : ((W4.alloc (.cells #[.int .i64 1] 3)).alloc (.cells #[.int .i64 0] 3)).frozen? ⟨W4.heap.size + 1, 0, none⟩ = false := by
        have := World.frozen?_alloc_at (w := W4.alloc (.cells #[.int .i64 1] 3)) #[.int .i64 0] 3 (W4.heap.size + 1) 0 (by simp)
        exact this
      have j5 : ((W4.alloc (.cells #[.int .i64 1] 3)).alloc (.cells #[.int .i64 0] 3)).heap.size = W4.heap.size + 2 := by simp
      have j6 : ((W4.alloc (.cells #[.int .i64 1] 3)).alloc (.cells #[.int .i64 0] 3)).frozen? ⟨W4.heap.size, 0, none⟩ = false := by
        rw [World.frozen?_alloc_past _ _ _ (by simp)]
        have := World.frozen?_alloc_at (w := W4) #[.int .i64 1] 3 W4.heap.size 0 rfl
        exact this
      generalize ((W4.alloc (.cells #[.int .i64 1] 3)).alloc (.cells #[.int .i64 0] 3)) = W5 at *
      have cr5 := (j1.cell (p := ⟨w.heap.size + 1, 0, none⟩) (by show w.heap.size + 1 < W4.heap.size; omega)).trans cr4
      have fr5 := (j1.frozen (p := ⟨w.heap.size + 1, 0, none⟩) (by show w.heap.size + 1 < W4.heap.size; omega)).trans fr4
      have cw5 := (j1.cell (p := ⟨w6.heap.size, 0, none⟩) (by show w6.heap.size < W4.heap.size; omega)).trans cw4
      have cs5 := (j1.cell (p := ⟨w6.heap.size + 1, 0, none⟩) (by show w6.heap.size + 1 < W4.heap.size; omega)).trans cs4
      have HDL : Hid (D < W4.heap.size) := (Array.getElem?_eq_some_iff.1 HKD.out).1
      have HKD5 := Lib.hid ((j1.block D HDL.out).trans HKD.out)
      have HB5x := Lib.hid (HB4x.out.trans (j1.mono HB4x.out.size))
      have HG5 := Lib.hid (HG4.out.trans (j1.mono HG4.out.size))
      have H05 : Hid (TurnI w W5 (W4.heap.size + 1) [] W5) := ⟨j3, j4, HB5x.out, Nat.le_refl _, fun _ _ _ => rfl⟩
      clear cm4 cr4 fr4 cw4 cs4 ct4 j1 j3 j4 HKD HB4x HG4 hmm h1
      refine wp_range_fix (gf := 26) (lb := #[.pointer (some ⟨w6.heap.size + 1, 0, none⟩)]) rfl (enters_of Tryd.func26 (by kernel_rfl) rfl)
        (HIT.out (w6.heap.size + 1) W5 (by omega) cs5) (Below.refl _ _) (Nat.zero_le _) (fun _ => rfl)
        (fun _ pre Wx => TurnI w W5 (W4.heap.size + 1) pre Wx ∧ True) (fun _ _ _ _ => False)
        (fun _ => turnI_own (by omega) (by omega) _) (fun _ _ => fun _ _ _ _ h _ _ => h.elim) (fun _ _ => ⟨H05.out, trivial⟩) ?_ ?_ ?_ ?_ ?_
      rotate_left
      · intro l x W K hK
        unfold encPref
        gi_wp2
        exact hK
      · rintro l' H pre x W1 hl hlH hHW _ ⟨hI, _⟩ hlen
        obtain ⟨hx, hkN⟩ := prefN_len l hlen
        have hgt := prefT_get l hkN
        rw [HN.out] at hkN
        subst hx
        have HNX := Lib.hid (turnI_next (H := H) (x := prefOf l pre.length) hI (by omega) (by omega))
        obtain ⟨h1, h2, h5, h6, h7⟩ := hI
        obtain ⟨b, off, rfl, hbw, hbc⟩ := HRW.out.get hgt
        have hcw : W1.cell? ⟨b, off + pre.length, none⟩ = some (.string (ofBytes (textP (l.take pre.length)))) :=
          ((World.cell?_of_block (h7 b (by have := HG5.out.size; omega) (by omega))).trans (HG5.out.cell (p := ⟨b, off + pre.length, none⟩) hbw)).trans hbc
        have cw := (World.cell?_of_block (a := ⟨w6.heap.size, 0, none⟩) (h7 w6.heap.size (by omega) (by omega))).trans cw5
        have ct := (World.cell?_of_block (a := ⟨W4.heap.size, 0, none⟩) (h7 W4.heap.size (by omega) (by omega))).trans j2
        clear hlen hgt hbc h7 h5 cw5 cs5 cr5
        unfold prefOf
        have HG : Hid (∀ a', bodyEnd W5.heap.size 0 H (fun pre Wx => TurnI w W5 (W4.heap.size + 1) pre Wx ∧ True) (fun _ _ _ => False) (pre ++ [prefOf l pre.length]) W1 .normal a' (W1.setCell ⟨W4.heap.size + 1, 0, none⟩ (.int .i64 ((pre.length : Int) + 1)))) := fun _ =>
          ⟨HNX.out.1, HNX.out.2, trivial⟩
        clear HNX k4 j5
        generalize pre.length = q at *
        gi_wp2
        exact HG.out _
      · rintro E H xs W6 hE hH hxs ⟨hI, _⟩ hK
        have e : xs.length = N := by rw [hxs, HN.out]
        obtain ⟨h1, h2, h5, h6, h7⟩ := hI
        rw [e] at h1
        have cr6 := (World.cell?_of_block (a := ⟨w.heap.size + 1, 0, none⟩) (h7 (w.heap.size + 1) (by omega) (by omega))).trans cr5
        have fr6 := (World.frozen?_of_block (a := ⟨w.heap.size + 1, 0, none⟩) (h7 (w.heap.size + 1) (by omega) (by omega))).trans fr5
        have cw6 := (World.cell?_of_block (a := ⟨w6.heap.size, 0, none⟩) (h7 w6.heap.size (by omega) (by omega))).trans cw5
        have ct6 := (World.cell?_of_block (a := ⟨W4.heap.size, 0, none⟩) (h7 W4.heap.size (by omega) (by omega))).trans j2
        have ft6 := (World.frozen?_of_block (a := ⟨W4.heap.size, 0, none⟩) (h7 W4.heap.size (by omega) (by omega))).trans j6
        have HD6 : Hid (W6.heap[D]? = some (.deferred (some []))) := (h7 D (by have := HDL.out; omega) (by have := HDL.out; omega)).trans HKD5.out
        have HE6 := Lib.hid hK
        have HB6x := Lib.hid h5
        have hs66 : W5.heap.size ≤ W6.heap.size := h6
        clear h5 h7 hK e hxs cw5 cs5 cr5 fr5 h6
        go_wp2_with fail
        have j1 : Below W6.heap.size W6 (W6.alloc (.cells #[.int .i64 2] 3)) := (Below.refl _ _).alloc (Nat.le_refl _) _
        have j7 : (W6.alloc (.cells #[.int .i64 2] 3)).cell? ⟨W6.heap.size, 0, none⟩ = some (.int .i64 2) := by simp
        generalize (W6.alloc (.cells #[.int .i64 2] 3)) = W7 at *
        have cr7 := (j1.cell (p := ⟨w.heap.size + 1, 0, none⟩) (by show w.heap.size + 1 < W6.heap.size; omega)).trans cr6
        have fr7 := (j1.frozen (p := ⟨w.heap.size + 1, 0, none⟩) (by show w.heap.size + 1 < W6.heap.size; omega)).trans fr6
        have HB7x := Lib.hid (below_trans HB6x.out j1)
        have HD7 := Lib.hid ((j1.block D (by have := HDL.out; omega)).trans HD6.out)
        have HE7 := Lib.hid ((j1.block E (Array.getElem?_eq_some_iff.1 HE6.out).1).trans HE6.out)
        have hs7 := j1.size
        clear j1 cr6 fr6 cw6 ct6 ft6
        rw [rounds_succ]
        go_wp2_with fail
        refine HK1.out _ _ ?_
        go_wp2_with fail
        refine (HWK.out _).mono ?_
        rintro e w8 ⟨rfl, hb8⟩
        have cr8 := (hb8.cell (p := ⟨w.heap.size + 1, 0, none⟩) (by show w.heap.size + 1 < W7.heap.size; omega)).trans cr7
        have fr8 := (hb8.frozen (p := ⟨w.heap.size + 1, 0, none⟩) (by show w.heap.size + 1 < W7.heap.size; omega)).trans fr7
        have HDX : Hid (∀ k, w.heap.size + 1 < k → W7.heap[k]? = some (.deferred (some [])) → (w8.setCell ⟨w.heap.size + 1, 0, none⟩ (.bool true)).heap[k]? = some (.deferred (some []))) := fun k hk h =>
          (Below.heap_setCell _ _ _ k (by show k ≠ w.heap.size + 1; omega)).trans ((hb8.block k (Array.getElem?_eq_some_iff.1 h).1).trans h)
        have HB8x : Hid (Below w.heap.size w (w8.setCell ⟨w.heap.size + 1, 0, none⟩ (.bool true))) := (below_trans HB7x.out hb8).setCell (p := ⟨w.heap.size + 1, 0, none⟩) (by show w.heap.size ≤ w.heap.size + 1; omega) _
        have hcs : (w8.setCell ⟨w.heap.size + 1, 0, none⟩ (.bool true)).cell? ⟨w.heap.size + 1, 0, none⟩ = some (.bool true) := World.cell?_setCell_same' _ _ _ (by rw [cr8]; rfl)
        have HCS := Lib.hid hcs
        clear hb8 hcs
        have HDg : Hid (w.heap.size + 1 < D) := by rw [Hid]; omega
        have HEg : Hid (w.heap.size + 1 < E) := by rw [Hid]; omega
        have HEDg : Hid (E ≠ D) := by have := HDL.out; rw [Hid]; omega
        go_wp2_with fail
        have HD9 := HDX.out D HDg.out HD7.out
        have HE9 := HDX.out E HEg.out HE7.out
        have hE10 := (World.putObj_heap_other (o := .deferred none) HEDg.out.symm).trans HD9
        have hcm := cell_mark hE10 (cell_mark HE9 HCS.out)
        refine ret_mark2 (v := .bool true) HE9 HD9 HEDg.out.symm (by simp [results, Tryd.results3, go_sem, hcm]) ⟨rfl, below_mark (below_mark HB8x.out (by have := HEg.out; omega) HE9) (by have := HDg.out; omega) hE10⟩
      · rintro D H cc pre W4 hD hH hSp h hK
        exact h.elim
end Go.Proofs.YtkhpdlaljepkjaaDoor
