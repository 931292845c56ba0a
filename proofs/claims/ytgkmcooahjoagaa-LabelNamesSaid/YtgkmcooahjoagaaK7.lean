/- Loops over iterators that ask a property of each world in which they go on, over any program. Conditions: none. -/
import Derived.Test.YtgkmcooahjoagaaK2
namespace Go.Proofs.Ytgkmcooahjoagaa
open Go.RowKit

section
variable {P : Program}
/-- An iterator: what comes of its value, called in any later world with any loop's yield. H: where its own first blocks end. -/
def IterQ {α : Type} (P : Program) (g : Nat) (lb : Array Value) (encs : α → Array Value) (n₀ : Nat) (Qc : World → Prop) (S Sp : List α → Prop) (T : List α → α → Prop) (w₀ : World) : Prop :=
  ∀ (l : Nat) (J Jx : Nat → List α → World → Prop) (W : World), Below w₀.heap.size w₀ W → (∀ H, OwnFrom W.heap.size (J H)) → (∀ H, OwnFrom W.heap.size (Jx H)) →
    (∀ H pre W1, J H pre W1 → Qc W1) →
    (∀ H pre x W1, W.heap.size ≤ H → H ≤ W1.heap.size → J H pre W1 → T pre x → Yields P l (encs x) W1 fun e W' =>
      (e = .returned (.bool true) ∧ J H (pre ++ [x]) W' ∧ Keeps W.heap.size n₀ H W1 W') ∨ (e = .returned (.bool false) ∧ Jx H (pre ++ [x]) W' ∧ Keeps W.heap.size n₀ H W1 W')) →
    (∀ H, W.heap.size ≤ H → J H [] W) →
    Calls P g (#[.func (.yield l) #[] #[]] ++ lb) W fun e W' => (∃ v, e = .returned v) ∧ ((∃ H xs, W.heap.size ≤ H ∧ S xs ∧ J H xs W') ∨ (∃ H pre, W.heap.size ≤ H ∧ Sp pre ∧ Jx H pre W'))

/-- **A range over a function, in the plain walk.** -/
theorem wp_rangeQ {α : Type} {g : Operand} {ps : Array Tmp} {assign body : Code} {Q : Exit → Act → World → Prop} {a : Act} {w : World}
    {gf : Nat} {lb : Array Value} (hg : a.eval g = .func (.func gf) #[] lb) (eg : ∀ args w, (callFunc gf args).run P w = .ok (.enter gf args) w)
    {encs : α → Array Value} {n₀ : Nat} {Qc : World → Prop} {S Sp : List α → Prop} {T : List α → α → Prop} {w0 : World} (hseq : IterQ P gf lb encs n₀ Qc S Sp T w0)
    (hb0 : Below w0.heap.size w0 w) (hn₀ : n₀ ≤ w.heap.size) (hps : ∀ x, (encs x).size = ps.size)
    (I : Nat → List α → World → Prop) (Ix : Nat → Code → List α → World → Prop) (hI : ∀ H, OwnFrom w.heap.size (I H)) (hIx : ∀ H c, OwnFrom w.heap.size (Ix H c)) (hQc : ∀ H pre W, I H pre W → Qc W) (h0 : ∀ H, w.heap.size ≤ H → I H [] w) (Ax : Nat → α → Act → World → Prop) (hAx : ∀ H x a', OwnFrom w.heap.size (fun (_ : Unit) W => Ax H x a' W))
    (hassign : ∀ (l H : Nat) (pre : List α) (x : α) (W : World) (K : Act → World → Prop), w.heap.size ≤ H → H ≤ W.heap.size → I H pre W → (∀ a' W', Keeps w.heap.size n₀ H W W' → I H pre W' → Ax H x a' W' → K a' W') →
      assign.wpIn (Fence.wide.inRound l) 9 P (Exit.then K (fun _ _ _ => False)) { tmps := (ps.zip (encs x)).foldl (fun t (p, v) => t.setIfInBounds p v) a.tmps, defers := [] } W)
    (hbody : ∀ (l H : Nat) (pre : List α) (x : α) (a' : Act) (W : World), w.heap.size ≤ l → l < H → H ≤ W.heap.size → (∃ r, W.heap[l]? = some (.loop r)) → I H pre W → Ax H x a' W → T pre x → body.wpIn (Fence.wide.inRound l) 9 P (bodyEnd w.heap.size n₀ H (I H) (Ix H) (pre ++ [x]) W) a' W)
    (hdone : ∀ (D H : Nat) (xs : List α) (W : World), w.heap.size ≤ D → w.heap.size ≤ H → S xs → I H xs W → W.heap[D]? = some (.deferred (some [])) → Q .normal { a with defers := { target := .collected D, args := #[] } :: a.defers } W)
    (hstop : ∀ (D H : Nat) (c : Code) (pre : List α) (W : World), w.heap.size ≤ D → w.heap.size ≤ H → Sp pre → Ix H c pre W → W.heap[D]? = some (.deferred (some [])) → c.wp P Q { a with defers := { target := .collected D, args := #[] } :: a.defers } W) :
    (Code.rangeFunc g ps assign body).wp P Q a w := by
  refine (wpIn_wide (n := 9)).1 (wpIn_rangeFunc fun fn _ => ?_)
  obtain ⟨r, hr⟩ : ∃ r : Loop, r = { state := .ready, pending := none, fn, tmps := a.tmps, params := ps, assign, body, defers := w.heap.size } := ⟨_, rfl⟩
  obtain ⟨W1, hW1⟩ : ∃ W1, (w.alloc (.deferred (some []))).alloc (.loop (recAt r .ready none)) = W1 := ⟨_, rfl⟩
  have hsz1 : W1.heap.size = w.heap.size + 2 := by rw [← hW1]; simp
  have hL1 : W1.heap[w.heap.size + 1]? = some (.loop (recAt r .ready none)) := by
    rw [← hW1]; have := World.alloc_heap_new (w.alloc (.deferred (some []))) (.loop (recAt r .ready none)); rwa [World.size_alloc] at this
  have hK1 : W1.heap[w.heap.size]? = some (.deferred (some [])) := by
    rw [← hW1]; exact (Below.heap_alloc _ _ _ (by simp)).trans (World.alloc_heap_new w _)
  have hI1 : ∀ H, W1.heap.size ≤ H → I H [] W1 := fun H hH => by rw [← hW1]; exact (hI H).alloc _ ((hI H).alloc _ (h0 H (by omega)))
  have hb1 : Below w0.heap.size w0 W1 := by
    rw [← hW1]; exact hb0.trans ((((Below.refl _ w).alloc (Nat.le_refl _) _).alloc (by simp) _).mono hb0.size)
  refine ⟨w.heap.size + 1, [{ target := .collected w.heap.size, args := #[] }], W1, { target := .fn (.func gf) lb, args := #[.func (.yield (w.heap.size + 1)) #[] #[]] }, W1, gf,
    #[.func (.yield (w.heap.size + 1)) #[] #[]] ++ lb, W1, ?_, ?_, ?_, ?_, fun _ => by omega, ?_⟩
  · rw [← hW1, hr]; exact run_enterLoop_outer _ _ _ _ _
  · simp only [resolve, hg]
    simp [go_sem]
  · intro f' _; trivial
  · simp [invoke, go_sem, eg]
  · refine (callsIn_wide (n := 9 - 1)).2 ((hseq (w.heap.size + 1)
      (fun H pre W => I H pre W ∧ W.heap[w.heap.size + 1]? = some (.loop (recAt r .ready none)) ∧ W.heap[w.heap.size]? = some (.deferred (some [])))
      (fun H pre W => ∃ c, Ix H c pre W ∧ W.heap[w.heap.size + 1]? = some (.loop (recAt r .done (some c))) ∧ W.heap[w.heap.size]? = some (.deferred (some [])))
      W1 hb1 ?_ ?_ (fun H pre W1 h => hQc H pre W1 h.1) ?_ (fun H hH => ⟨hI1 H hH, hL1, hK1⟩)).mono ?_)
    · intro H s A B row hs hg' hr'
      exact ⟨hI H s A B row hs.1 hg' (fun q e => ⟨by have := (hr' q e).1; omega, (hr' q e).2⟩), grown_far hg' (fun q e => (hr' q e).1) hs.2.1 (by omega), grown_far hg' (fun q e => (hr' q e).1) hs.2.2 (by omega)⟩
    · intro H s A B row hs hg' hr'
      obtain ⟨c, hc, h1, h2⟩ := hs
      exact ⟨c, hIx H c s A B row hc hg' (fun q e => ⟨by have := (hr' q e).1; omega, (hr' q e).2⟩), grown_far hg' (fun q e => (hr' q e).1) h1 (by omega), grown_far hg' (fun q e => (hr' q e).1) h2 (by omega)⟩
    · rintro H pre x W hH hWs ⟨hi, hl, hk⟩ hlen
      have hps' : (encs x).size = r.params.size := by rw [hr]; exact hps x
      have := round_yields (P := P) (l := w.heap.size + 1) (B := w.heap.size) (n₀ := n₀) (H := H) (r := r) (I := I H) (Ix := Ix H) (args := encs x) (pre := pre) (x := x) (W := W) (A := Ax H x) (hI H) (hIx H) (hAx H x) (by omega) (by omega) (by omega) hWs hl hi hps'
        (by rw [hr]; exact fun K hK => hassign _ H pre x W K (by omega) hWs hi hK)
        (by
          intro a' W' hs' hl' hi' hA'
          have := hbody (w.heap.size + 1) H pre x a' W' (by omega) (by omega) hs' ⟨_, hl'⟩ hi' hA' hlen
          rw [hr]; exact this)
      obtain ⟨fn', tm, asg, bo, h1, h2⟩ := this
      refine ⟨fn', tm, asg, bo, h1, fun m => (h2 m).mono ?_⟩
      rintro e W' (⟨rfl, ⟨hi', hl', ho⟩, hkf⟩ | ⟨rfl, ⟨c, hc, hl', ho⟩, hkf⟩)
      · exact .inl ⟨rfl, ⟨hi', hl', (ho _ (Nat.le_refl _) (by omega) (by omega)).trans hk⟩, by rw [hsz1]; exact hkf⟩
      · exact .inr ⟨rfl, ⟨c, hc, hl', (ho _ (Nat.le_refl _) (by omega) (by omega)).trans hk⟩, by rw [hsz1]; exact hkf⟩
    · rintro e W2 ⟨⟨v, rfl⟩, (⟨H, xs, hH, hS, hi, hl, hk⟩ | ⟨H, pre, hH, hSp, c, hi, hl, hk⟩)⟩
      · exact ⟨none, _, run_endLoop (r := recAt r _ _) hl (by simp [recAt]), hdone _ H xs _ (Nat.le_refl _) (by omega) hS ((hI H).putObj _ hi (by omega) hl rfl) ((World.putObj_heap_other (by omega)).trans hk)⟩
      · exact ⟨some c, _, run_endLoop (r := recAt r _ _) hl (by simp [recAt]), wpIn_wide.2 (hstop _ H c pre _ (Nat.le_refl _) (by omega) hSp ((hIx H c).putObj _ hi (by omega) hl rfl) ((World.putObj_heap_other (by omega)).trans hk))⟩

/-- The same, where the loop's variables lie in no box. -/
theorem wp_rangeQ_fix {α : Type} {g : Operand} {ps : Array Tmp} {assign body : Code} {Q : Exit → Act → World → Prop} {a : Act} {w : World}
    {gf : Nat} {lb : Array Value} (hg : a.eval g = .func (.func gf) #[] lb) (eg : ∀ args w, (callFunc gf args).run P w = .ok (.enter gf args) w)
    {encs : α → Array Value} {n₀ : Nat} {Qc : World → Prop} {S Sp : List α → Prop} {T : List α → α → Prop} {w0 : World} (hseq : IterQ P gf lb encs n₀ Qc S Sp T w0)
    (hb0 : Below w0.heap.size w0 w) (hn₀ : n₀ ≤ w.heap.size) (hps : ∀ x, (encs x).size = ps.size)
    (I : Nat → List α → World → Prop) (Ix : Nat → Code → List α → World → Prop) (hI : ∀ H, OwnFrom w.heap.size (I H)) (hIx : ∀ H c, OwnFrom w.heap.size (Ix H c)) (hQc : ∀ H pre W, I H pre W → Qc W) (h0 : ∀ H, w.heap.size ≤ H → I H [] w) (A : α → Act)
    (hassign : ∀ (l : Nat) (x : α) (W : World) (K : Act → World → Prop), K (A x) W →
      assign.wpIn (Fence.wide.inRound l) 9 P (Exit.then K (fun _ _ _ => False)) { tmps := (ps.zip (encs x)).foldl (fun t (p, v) => t.setIfInBounds p v) a.tmps, defers := [] } W)
    (hbody : ∀ (l H : Nat) (pre : List α) (x : α) (W : World), w.heap.size ≤ l → l < H → H ≤ W.heap.size → (∃ r, W.heap[l]? = some (.loop r)) → I H pre W → T pre x → body.wpIn (Fence.wide.inRound l) 9 P (bodyEnd w.heap.size n₀ H (I H) (Ix H) (pre ++ [x]) W) (A x) W)
    (hdone : ∀ (D H : Nat) (xs : List α) (W : World), w.heap.size ≤ D → w.heap.size ≤ H → S xs → I H xs W → W.heap[D]? = some (.deferred (some [])) → Q .normal { a with defers := { target := .collected D, args := #[] } :: a.defers } W)
    (hstop : ∀ (D H : Nat) (c : Code) (pre : List α) (W : World), w.heap.size ≤ D → w.heap.size ≤ H → Sp pre → Ix H c pre W → W.heap[D]? = some (.deferred (some [])) → c.wp P Q { a with defers := { target := .collected D, args := #[] } :: a.defers } W) :
    (Code.rangeFunc g ps assign body).wp P Q a w := 
  wp_rangeQ hg eg hseq hb0 hn₀ hps I Ix hI hIx hQc h0 (fun _ x a' _ => a' = A x) (fun _ _ _ _ _ _ _ hs _ _ => hs)
    (fun l H _ x W K _ _ hi hK => hassign l x W K (hK _ _ (Keeps.refl _ _ _ _) hi rfl))
    (fun l H pre x a' W h1 h2 h3 h4 h5 h6 h7 => by subst h6; exact hbody l H pre x W h1 h2 h3 h4 h5 h7) hdone hstop

/-- **A range over a function in a round of another one.** -/
theorem wpIn_rangeQ_in {α : Type} {g : Operand} {ps : Array Tmp} {assign body : Code} {Q : Exit → Act → World → Prop} {a : Act} {w : World}
    {l₀ : Nat} {r₀ : Loop} (hr₀ : w.heap[l₀]? = some (.loop r₀))
    {gf : Nat} {lb : Array Value} (hg : a.eval g = .func (.func gf) #[] lb) (eg : ∀ args w, (callFunc gf args).run P w = .ok (.enter gf args) w)
    {encs : α → Array Value} {n₀ : Nat} {Qc : World → Prop} {S Sp : List α → Prop} {T : List α → α → Prop} {w0 : World} (hseq : IterQ P gf lb encs n₀ Qc S Sp T w0)
    (hb0 : Below w0.heap.size w0 w) (hn₀ : n₀ ≤ w.heap.size) (hps : ∀ x, (encs x).size = ps.size)
    (I : Nat → List α → World → Prop) (Ix : Nat → Code → List α → World → Prop) (hI : ∀ H, OwnFrom w.heap.size (I H)) (hIx : ∀ H c, OwnFrom w.heap.size (Ix H c)) (hQc : ∀ H pre W, I H pre W → Qc W) (h0 : ∀ H, w.heap.size ≤ H → I H [] w) (Ax : Nat → α → Act → World → Prop) (hAx : ∀ H x a', OwnFrom w.heap.size (fun (_ : Unit) W => Ax H x a' W))
    (hassign : ∀ (l H : Nat) (pre : List α) (x : α) (W : World) (K : Act → World → Prop), w.heap.size ≤ H → H ≤ W.heap.size → I H pre W → (∀ a' W', Keeps w.heap.size n₀ H W W' → I H pre W' → Ax H x a' W' → K a' W') →
      assign.wpIn (Fence.wide.inRound l) 9 P (Exit.then K (fun _ _ _ => False)) { tmps := (ps.zip (encs x)).foldl (fun t (p, v) => t.setIfInBounds p v) a.tmps, defers := [] } W)
    (hbody : ∀ (l H : Nat) (pre : List α) (x : α) (a' : Act) (W : World), w.heap.size ≤ l → l < H → H ≤ W.heap.size → (∃ r, W.heap[l]? = some (.loop r)) → I H pre W → Ax H x a' W → T pre x → body.wpIn (Fence.wide.inRound l) 9 P (bodyEnd w.heap.size n₀ H (I H) (Ix H) (pre ++ [x]) W) a' W)
    (hdone : ∀ (H : Nat) (xs : List α) (W : World), w.heap.size ≤ H → S xs → I H xs W → Q .normal a W)
    (hstop : ∀ (H : Nat) (c : Code) (pre : List α) (W : World), w.heap.size ≤ H → Sp pre → Ix H c pre W → c.wpIn (Fence.wide.inRound l₀) 9 P Q a W) :
    (Code.rangeFunc g ps assign body).wpIn (Fence.wide.inRound l₀) 9 P Q a w := by
  refine wpIn_rangeFunc fun fn _ => ?_
  obtain ⟨r, hr⟩ : ∃ r : Loop, r = { state := .ready, pending := none, fn, tmps := a.tmps, params := ps, assign, body, defers := r₀.defers } := ⟨_, rfl⟩
  obtain ⟨W1, hW1⟩ : ∃ W1, w.alloc (.loop (recAt r .ready none)) = W1 := ⟨_, rfl⟩
  have hsz1 : W1.heap.size = w.heap.size + 1 := by rw [← hW1]; simp
  have hL1 : W1.heap[w.heap.size]? = some (.loop (recAt r .ready none)) := by rw [← hW1]; exact World.alloc_heap_new w _
  have hI1 : ∀ H, W1.heap.size ≤ H → I H [] W1 := fun H hH => by rw [← hW1]; exact (hI H).alloc _ (h0 H (by omega))
  have hb1 : Below w0.heap.size w0 W1 := by
    rw [← hW1]; exact hb0.trans (((Below.refl _ w).alloc (Nat.le_refl _) _).mono hb0.size)
  refine ⟨w.heap.size, [], W1, { target := .fn (.func gf) lb, args := #[.func (.yield w.heap.size) #[] #[]] }, W1, gf,
    #[.func (.yield w.heap.size) #[] #[]] ++ lb, W1, ?_, ?_, ?_, ?_, fun _ => by omega, ?_⟩
  · rw [← hW1, hr]; exact run_enterLoop_inner hr₀ _ _ _ _ _
  · simp only [resolve, hg]
    simp [go_sem]
  · intro f' _; trivial
  · simp [invoke, go_sem, eg]
  · have hc := (hseq w.heap.size
      (fun H pre W => I H pre W ∧ W.heap[w.heap.size]? = some (.loop (recAt r .ready none)))
      (fun H pre W => ∃ c, Ix H c pre W ∧ W.heap[w.heap.size]? = some (.loop (recAt r .done (some c))))
      W1 hb1
      (by
        intro H s A B row hs hg' hr'
        exact ⟨hI H s A B row hs.1 hg' (fun q e => ⟨by have := (hr' q e).1; omega, (hr' q e).2⟩), grown_far hg' (fun q e => (hr' q e).1) hs.2 (by omega)⟩)
      (by
        intro H s A B row hs hg' hr'
        obtain ⟨c, hc, h1⟩ := hs
        exact ⟨c, hIx H c s A B row hc hg' (fun q e => ⟨by have := (hr' q e).1; omega, (hr' q e).2⟩), grown_far hg' (fun q e => (hr' q e).1) h1 (by omega)⟩)
      (fun H pre W1 h => hQc H pre W1 h.1)
      (by
        rintro H pre x W hH hWs ⟨hi, hl⟩ hlen
        have hps' : (encs x).size = r.params.size := by rw [hr]; exact hps x
        have := round_yields (P := P) (l := w.heap.size) (B := w.heap.size) (n₀ := n₀) (H := H) (r := r) (I := I H) (Ix := Ix H) (args := encs x) (pre := pre) (x := x) (W := W) (A := Ax H x) (hI H) (hIx H) (hAx H x) (Nat.le_refl _) hn₀ (by omega) hWs hl hi hps'
          (by rw [hr]; exact fun K hK => hassign _ H pre x W K (by omega) hWs hi hK)
          (by
            intro a' W' hs' hl' hi' hA'
            have := hbody w.heap.size H pre x a' W' (Nat.le_refl _) (by omega) hs' ⟨_, hl'⟩ hi' hA' hlen
            rw [hr]; exact this)
        obtain ⟨fn', tm, asg, bo, h1, h2⟩ := this
        refine ⟨fn', tm, asg, bo, h1, fun m => (h2 m).mono ?_⟩
        rintro e W' (⟨rfl, ⟨hi', hl', ho⟩, hkf⟩ | ⟨rfl, ⟨c, hc, hl', ho⟩, hkf⟩)
        · exact .inl ⟨rfl, ⟨hi', hl'⟩, by rw [hsz1]; exact hkf⟩
        · exact .inr ⟨rfl, ⟨c, hc, hl'⟩, by rw [hsz1]; exact hkf⟩)
      (fun H hH => ⟨hI1 H hH, hL1⟩))
    refine (callsIn_wide (n := 9 - 1)).2 (hc.mono ?_)
    rintro e W2 ⟨⟨v, rfl⟩, (⟨H, xs, hH, hS, hi, hl⟩ | ⟨H, pre, hH, hSp, c, hi, hl⟩)⟩
    · exact ⟨none, _, run_endLoop (r := recAt r _ _) hl (by simp [recAt]), hdone H xs _ (by omega) hS ((hI H).putObj _ hi (by omega) hl rfl)⟩
    · exact ⟨some c, _, run_endLoop (r := recAt r _ _) hl (by simp [recAt]), hstop H c pre _ (by omega) hSp ((hIx H c).putObj _ hi (by omega) hl rfl)⟩
end
end Go.Proofs.Ytgkmcooahjoagaa
