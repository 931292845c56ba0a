/- Iterators and loops over them, over any program: an iterator may itself go over another one. Conditions: none. -/
import Derived.Test.YtgkmcooahjoagaaK1
namespace Go.Proofs.Ytgkmcooahjoagaa
open Go.RowKit

section
variable {P : Program}

/-- A call of yield. -/
def Yields (P : Program) (l : Nat) (args : Array Value) (W : World) (R : Ending → World → Prop) : Prop :=
  ∃ fn tmps assign body, (Instr.yield l args).run P W = .ok (.round l fn tmps assign body) W ∧ ∀ m, RoundIn Fence.wide m P l fn tmps assign body W R

theorem yields_bool {l : Nat} {args : Array Value} {W : World} {A B : World → Prop} (h : Yields P l args W fun e W' => (e = .returned (.bool true) ∧ A W') ∨ (e = .returned (.bool false) ∧ B W')) :
    Yields P l args W fun e W' => ∃ bb, e = .returned (.bool bb) ∧ Hid ((bb = true ∧ A W') ∨ (bb = false ∧ B W')) := by
  obtain ⟨fn, tm, asg, bo, h1, h2⟩ := h
  refine ⟨fn, tm, asg, bo, h1, fun m => (h2 m).mono ?_⟩
  rintro e W' (⟨he, ha⟩ | ⟨he, hb⟩)
  · exact ⟨true, he, .inl ⟨rfl, ha⟩⟩
  · exact ⟨false, he, .inr ⟨rfl, hb⟩⟩

/-- What a round's body keeps: what lay below n₀; what is no cells, from B on; all of the iterator's own blocks, from B to H. -/
structure Keeps (B n₀ H : Nat) (W W' : World) : Prop where
  below : Below n₀ W W'
  others : ∀ (k : Nat) (o : Obj), B ≤ k → W.heap[k]? = some o → o.isCells = false → W'.heap[k]? = some o
  mine : ∀ k, B ≤ k → k < H → W'.heap[k]? = W.heap[k]?

theorem Keeps.size {B n₀ H : Nat} {W W' : World} (h : Keeps B n₀ H W W') : W.heap.size ≤ W'.heap.size := h.below.size
theorem Keeps.refl (B n₀ H : Nat) (W : World) : Keeps B n₀ H W W := ⟨Below.refl _ _, fun _ _ _ h _ => h, fun _ _ _ => rfl⟩
theorem Keeps.trans {B n₀ H : Nat} {X Y Z : World} (h : Keeps B n₀ H X Y) (k : Keeps B n₀ H Y Z) : Keeps B n₀ H X Z :=
  ⟨h.below.trans k.below, fun i o hi ho hc => k.others i o hi (h.others i o hi ho hc) hc, fun i hi hH => (k.mine i hi hH).trans (h.mine i hi hH)⟩
theorem Keeps.mono {B B' n₀ n₀' H : Nat} {W W' : World} (h : Keeps B n₀ H W W') (hB : B ≤ B') (hn : n₀' ≤ n₀) : Keeps B' n₀' H W W' :=
  ⟨h.below.mono hn, fun i o hi => h.others i o (by omega), fun i hi => h.mine i (by omega)⟩
theorem Keeps.cell {B n₀ H : Nat} {W W' : World} (h : Keeps B n₀ H W W') {p : Addr} (hp : p.block < n₀ ∨ (B ≤ p.block ∧ p.block < H)) : W'.cell? p = W.cell? p := by
  rcases hp with hp | ⟨h1, h2⟩
  · exact h.below.cell hp
  · exact World.cell?_of_block (h.mine _ h1 h2)
/-- New blocks and nothing else. -/
theorem Keeps.of_below {B n₀ H : Nat} {W W' : World} (h : Below W.heap.size W W') (hn : n₀ ≤ W.heap.size) (hH : H ≤ W.heap.size) : Keeps B n₀ H W W' :=
  ⟨h.mono hn, fun k o _ ho _ => (h.block k (Array.getElem?_eq_some_iff.1 ho).1).trans ho, fun k _ hk => h.block k (by omega)⟩
theorem Keeps.drew (B n₀ H : Nat) (W : World) : Keeps B n₀ H W W.drew := ⟨(Below.refl _ _).drew, fun _ _ _ h _ => h, fun _ _ _ => rfl⟩
theorem Keeps.drewN (B n₀ H : Nat) (W : World) (n : Nat) : Keeps B n₀ H W (W.drewN n) := ⟨below_drewN (Below.refl _ _) n, fun _ _ _ h _ => h, fun _ _ _ => rfl⟩
theorem Keeps.alloc {B n₀ H : Nat} (W : World) (o : Obj) (hn : n₀ ≤ W.heap.size) (hH : H ≤ W.heap.size) : Keeps B n₀ H W (W.alloc o) :=
  Keeps.of_below ((Below.refl _ _).alloc (Nat.le_refl _) _) hn hH
theorem Keeps.setCell {B n₀ H : Nat} (W : World) (p : Addr) (v : Value) (hn : n₀ ≤ p.block) (hH : p.block < B ∨ H ≤ p.block) : Keeps B n₀ H W (W.setCell p v) :=
  ⟨(Below.refl _ _).setCell hn v, fun k o hk ho hc => (KeepsOthers.setCell W p v).same k o ho hc, fun k hk hkH => Below.heap_setCell W p v k (by omega)⟩
theorem Keeps.of_grownBy {B n₀ H : Nat} {W W' : World} {row : Option Nat} (hg : W.grownBy W' row) (hn : n₀ ≤ W.heap.size) (hH : H ≤ W.heap.size)
    (hr : ∀ r, row = some r → n₀ ≤ r ∧ (r < B ∨ H ≤ r) ∧ ∀ o, W.heap[r]? = some o → o.isCells = true) : Keeps B n₀ H W W' := by
  refine ⟨(Below.refl _ _).grown hg hn (fun k e => (hr k e).1), fun k o hk ho hc => ?_, fun k hk hkH => ?_⟩
  · refine (hg.block k (Array.getElem?_eq_some_iff.1 ho).1 (fun e => ?_)).trans ho
    have := (hr k e.symm).2.2 o ho
    rw [hc] at this; cases this
  · refine hg.block k (by omega) (fun e => ?_)
    have := (hr k e.symm).2.1
    omega

/-- An iterator: what comes of its value, called in any later world with any loop's yield. H: where its own first blocks end. -/
def Iter {α : Type} (P : Program) (g : Nat) (lb : Array Value) (encs : α → Array Value) (n₀ : Nat) (S Sp : List α → Prop) (T : List α → α → Prop) (w₀ : World) : Prop :=
  ∀ (l : Nat) (J Jx : Nat → List α → World → Prop) (W : World), Below w₀.heap.size w₀ W → (∀ H, OwnFrom W.heap.size (J H)) → (∀ H, OwnFrom W.heap.size (Jx H)) →
    (∀ H pre x W1, W.heap.size ≤ H → H ≤ W1.heap.size → J H pre W1 → T pre x → Yields P l (encs x) W1 fun e W' =>
      (e = .returned (.bool true) ∧ J H (pre ++ [x]) W' ∧ Keeps W.heap.size n₀ H W1 W') ∨ (e = .returned (.bool false) ∧ Jx H (pre ++ [x]) W' ∧ Keeps W.heap.size n₀ H W1 W')) →
    (∀ H, W.heap.size ≤ H → J H [] W) →
    Calls P g (#[.func (.yield l) #[] #[]] ++ lb) W fun e W' => (∃ v, e = .returned v) ∧ ((∃ H xs, W.heap.size ≤ H ∧ S xs ∧ J H xs W') ∨ (∃ H pre, W.heap.size ≤ H ∧ Sp pre ∧ Jx H pre W'))

theorem ownFrom_mono {β : Type} {B B' : Nat} {I : β → World → Prop} (h : OwnFrom B I) (hB : B ≤ B') : OwnFrom B' I :=
  fun s W W' row hs hg hr => h s W W' row hs hg (fun r e => ⟨Nat.le_trans hB (hr r e).1, (hr r e).2⟩)
theorem OwnFrom.below {β : Type} {B : Nat} {I : β → World → Prop} (h : OwnFrom B I) {s : β} {W W' : World} (hs : I s W) (hb : Below W.heap.size W W') : I s W' :=
  h s W W' none hs ⟨hb.os, hb.tape, hb.output, hb.size, fun k hk _ => hb.block k hk⟩ (fun r e => by cases e)
/-- A block that is far from what may be turned. -/
theorem grown_far {W W' : World} {row : Option Nat} {B k : Nat} {o : Obj} (hg : W.grownBy W' row) (hr : ∀ r, row = some r → B ≤ r) (hk : W.heap[k]? = some o) (hB : k < B) : W'.heap[k]? = some o :=
  (hg.block k (Array.getElem?_eq_some_iff.1 hk).1 (fun e => by have := hr k e.symm; omega)).trans hk

/-- How a round's body may be left. -/
def bodyEnd {α : Type} (B n₀ H : Nat) (I : List α → World → Prop) (Ix : Code → List α → World → Prop) (xs : List α) (W : World) : Exit → Act → World → Prop
  | .normal, _, W' => Keeps B n₀ H W W' ∧ I xs W'
  | .ret, _, W' => Keeps B n₀ H W W' ∧ Ix .ret xs W'
  | .exit id, _, W' => Keeps B n₀ H W W' ∧ Ix (.exit id) xs W'
  | .goto t, _, W' => Keeps B n₀ H W W' ∧ Ix (.goto t) xs W'
  | .panic _, _, _ => False
  | .outgrown, _, _ => False

/-- A loop's record as it stands. -/
def recAt (r : Loop) (s : LoopState) (j : Option Code) : Loop := { r with state := s, pending := j }

/-- What one round does. -/
theorem round_yields {α : Type} {l B n₀ H : Nat} {r : Loop} {I : List α → World → Prop} {Ix : Code → List α → World → Prop} {args : Array Value} {pre : List α} {x : α} {W : World} {A : Act → World → Prop}
    (hIo : OwnFrom B I) (hIxo : ∀ c, OwnFrom B (Ix c)) (hAo : ∀ a', OwnFrom B (fun (_ : Unit) W => A a' W)) (hBl : B ≤ l) (hn₀ : n₀ ≤ l) (_hlH : l < H) (hHW : H ≤ W.heap.size)
    (hl : W.heap[l]? = some (.loop (recAt r .ready none))) (_hi : I pre W) (hsz : args.size = r.params.size)
    (hassign : ∀ K : Act → World → Prop, (∀ a' W', Keeps B n₀ H W W' → I pre W' → A a' W' → K a' W') →
      r.assign.wpIn (Fence.wide.inRound l) 9 P (Exit.then K (fun _ _ _ => False)) { tmps := (r.params.zip args).foldl (fun t (p, v) => t.setIfInBounds p v) r.tmps, defers := [] } W)
    (hbody : ∀ a' W', H ≤ W'.heap.size → W'.heap[l]? = some (.loop (recAt r .busy none)) → I pre W' → A a' W' → r.body.wpIn (Fence.wide.inRound l) 9 P (bodyEnd B n₀ H I Ix (pre ++ [x]) W') a' W') :
    Yields P l args W fun e W' =>
      (e = .returned (.bool true) ∧ (I (pre ++ [x]) W' ∧ W'.heap[l]? = some (.loop (recAt r .ready none)) ∧ (∀ k, B ≤ k → k < H → k ≠ l → W'.heap[k]? = W.heap[k]?)) ∧ Keeps (l + 1) n₀ H W W') ∨
      (e = .returned (.bool false) ∧ (∃ c, Ix c (pre ++ [x]) W' ∧ W'.heap[l]? = some (.loop (recAt r .done (some c))) ∧ (∀ k, B ≤ k → k < H → k ≠ l → W'.heap[k]? = W.heap[k]?)) ∧ Keeps (l + 1) n₀ H W W') := by
  refine ⟨r.fn, _, r.assign, r.body, run_yield (r := recAt r .ready none) hl hsz, fun m => ?_⟩
  have key : RoundIn Fence.wide 9 P l r.fn ((r.params.zip args).foldl (fun t (p, v) => t.setIfInBounds p v) r.tmps) r.assign r.body W fun e W' =>
      (e = .returned (.bool true) ∧ (I (pre ++ [x]) W' ∧ W'.heap[l]? = some (.loop (recAt r .ready none)) ∧ (∀ k, B ≤ k → k < H → k ≠ l → W'.heap[k]? = W.heap[k]?)) ∧ Keeps (l + 1) n₀ H W W') ∨
      (e = .returned (.bool false) ∧ (∃ c, Ix c (pre ++ [x]) W' ∧ W'.heap[l]? = some (.loop (recAt r .done (some c))) ∧ (∀ k, B ≤ k → k < H → k ≠ l → W'.heap[k]? = W.heap[k]?)) ∧ Keeps (l + 1) n₀ H W W') := by
    refine roundIn_of_wpIn trivial (hassign _ ?_)
    intro a' W1 hk1 hi1 hA1
    have hl1 := hk1.others l _ hBl hl rfl
    refine ⟨_, run_beginRound (r := recAt r .ready none) hl1 rfl, ?_⟩
    have hlt1 : l < W1.heap.size := (Array.getElem?_eq_some_iff.1 hl1).1
    have hs1 := hk1.size
    have hl2 : (W1.putObj l (.loop (recAt r .busy none))).heap[l]? = some (.loop (recAt r .busy none)) := World.putObj_heap_same hlt1
    refine wpIn_mono (hbody a' _ (by simp; omega) hl2 (hIo.putObj _ hi1 hBl hl1 rfl) ((hAo a').putObj (s := ()) _ hA1 hBl hl1 rfl)) ?_
    have hb2 : Below n₀ W1 (W1.putObj l (.loop (recAt r .busy none))) := (Below.refl n₀ W1).grown (grownBy_putObj' W1 l _) (by omega) (fun k e => by cases e; omega)
    have fin : ∀ (j : Option Code) (W3 : World), Keeps B n₀ H (W1.putObj l (.loop (recAt r .busy none))) W3 →
        (Instr.endRound l j).run P W3 = .ok (.bool j.isNone) (W3.putObj l (.loop (recAt r (if j.isNone then .ready else .done) j))) ∧
        W3.heap[l]? = some (.loop (recAt r .busy none)) ∧
        (W3.putObj l (.loop (recAt r (if j.isNone then .ready else .done) j))).heap[l]? = some (.loop (recAt r (if j.isNone then .ready else .done) j)) ∧
        (∀ k, B ≤ k → k < H → k ≠ l → (W3.putObj l (.loop (recAt r (if j.isNone then .ready else .done) j))).heap[k]? = W.heap[k]?) ∧
        (∀ k o, B ≤ k → k ≠ l → W.heap[k]? = some o → o.isCells = false → (W3.putObj l (.loop (recAt r (if j.isNone then .ready else .done) j))).heap[k]? = some o) ∧
        Below n₀ W (W3.putObj l (.loop (recAt r (if j.isNone then .ready else .done) j))) := fun j W3 hk3 => by
      have hl3 := hk3.others l _ hBl hl2 rfl
      refine ⟨run_endRound (r := recAt r .busy none) j hl3, hl3, World.putObj_heap_same (Array.getElem?_eq_some_iff.1 hl3).1, fun k hk hkH hne => ?_, fun k o hk hne ho hc => ?_,
        (hk1.below.trans (hb2.trans hk3.below)).trans ((Below.refl n₀ W3).grown (grownBy_putObj' W3 l _) (by have := hk3.size; simp at this; omega) (fun k e => by cases e; omega))⟩
      · rw [World.putObj_heap_other hne, hk3.mine k hk hkH, World.putObj_heap_other hne, hk1.mine k hk hkH]
      · rw [World.putObj_heap_other hne]
        exact hk3.others k o hk ((World.putObj_heap_other hne).trans (hk1.others k o hk ho hc)) hc
    rintro e a3 W3 hp
    cases e with
    | normal =>
      obtain ⟨hk3, hi3⟩ := hp
      obtain ⟨hr, hl3, hl4, hm, ho, hbl⟩ := fin none W3 hk3
      exact ⟨_, _, hr, .inl ⟨rfl, ⟨hIo.putObj _ hi3 hBl hl3 rfl, hl4, hm⟩, hbl, fun k o hk => ho k o (by omega) (by omega), fun k hk hkH => hm k (by omega) hkH (by omega)⟩⟩
    | ret =>
      obtain ⟨hk3, hi3⟩ := hp
      obtain ⟨hr, hl3, hl4, hm, ho, hbl⟩ := fin (some .ret) W3 hk3
      exact ⟨_, _, hr, .inr ⟨rfl, ⟨.ret, (hIxo _).putObj _ hi3 hBl hl3 rfl, hl4, hm⟩, hbl, fun k o hk => ho k o (by omega) (by omega), fun k hk hkH => hm k (by omega) hkH (by omega)⟩⟩
    | exit id =>
      obtain ⟨hk3, hi3⟩ := hp
      obtain ⟨hr, hl3, hl4, hm, ho, hbl⟩ := fin (some (.exit id)) W3 hk3
      exact ⟨_, _, hr, .inr ⟨rfl, ⟨.exit id, (hIxo _).putObj _ hi3 hBl hl3 rfl, hl4, hm⟩, hbl, fun k o hk => ho k o (by omega) (by omega), fun k hk hkH => hm k (by omega) hkH (by omega)⟩⟩
    | goto t =>
      obtain ⟨hk3, hi3⟩ := hp
      obtain ⟨hr, hl3, hl4, hm, ho, hbl⟩ := fin (some (.goto t)) W3 hk3
      exact ⟨_, _, hr, .inr ⟨rfl, ⟨.goto t, (hIxo _).putObj _ hi3 hBl hl3 rfl, hl4, hm⟩, hbl, fun k o hk => ho k o (by omega) (by omega), fun k hk hkH => hm k (by omega) hkH (by omega)⟩⟩
    | panic ch => exact hp.elim
    | outgrown => exact hp.elim
  exact ⟨key.1, fun c cs _ => key.2 c cs (room_wide _)⟩

/-- **A range over a function, in the plain walk.** -/
theorem wp_range {α : Type} {g : Operand} {ps : Array Tmp} {assign body : Code} {Q : Exit → Act → World → Prop} {a : Act} {w : World}
    {gf : Nat} {lb : Array Value} (hg : a.eval g = .func (.func gf) #[] lb) (eg : ∀ args w, (callFunc gf args).run P w = .ok (.enter gf args) w)
    {encs : α → Array Value} {n₀ : Nat} {S Sp : List α → Prop} {T : List α → α → Prop} {w0 : World} (hseq : Iter P gf lb encs n₀ S Sp T w0)
    (hb0 : Below w0.heap.size w0 w) (hn₀ : n₀ ≤ w.heap.size) (hps : ∀ x, (encs x).size = ps.size)
    (I : Nat → List α → World → Prop) (Ix : Nat → Code → List α → World → Prop) (hI : ∀ H, OwnFrom w.heap.size (I H)) (hIx : ∀ H c, OwnFrom w.heap.size (Ix H c)) (h0 : ∀ H, w.heap.size ≤ H → I H [] w) (Ax : Nat → α → Act → World → Prop) (hAx : ∀ H x a', OwnFrom w.heap.size (fun (_ : Unit) W => Ax H x a' W))
    (hassign : ∀ (l H : Nat) (pre : List α) (x : α) (W : World) (K : Act → World → Prop), w.heap.size ≤ H → H ≤ W.heap.size → I H pre W → (∀ a' W', Keeps w.heap.size n₀ H W W' → I H pre W' → Ax H x a' W' → K a' W') →
      assign.wpIn (Fence.wide.inRound l) 9 P (Exit.then K (fun _ _ _ => False)) { tmps := (ps.zip (encs x)).foldl (fun t (p, v) => t.setIfInBounds p v) a.tmps, defers := [] } W)
    (hbody : ∀ (l H : Nat) (pre : List α) (x : α) (a' : Act) (W : World), w.heap.size ≤ l → l < H → H ≤ W.heap.size → (∃ r, W.heap[l]? = some (.loop r)) → I H pre W → Ax H x a' W → T pre x → body.wpIn (Fence.wide.inRound l) 9 P (bodyEnd w.heap.size n₀ H (I H) (Ix H) (pre ++ [x]) W) a' W)
    (hdone : ∀ (D H : Nat) (xs : List α) (W : World), w.heap.size ≤ D → w.heap.size ≤ H → S xs → I H xs W → W.heap[D]? = some (.deferred (some [])) → Q .normal { a with defers := { target := .collected D, args := #[] } :: a.defers } W)
    (hstop : ∀ (D H : Nat) (c : Code) (pre : List α) (W : World), w.heap.size ≤ D → w.heap.size ≤ H → Sp pre → Ix H c pre W → W.heap[D]? = some (.deferred (some [])) → c.wp P Q { a with defers := { target := .collected D, args := #[] } :: a.defers } W) :
    (Code.rangeFunc g ps assign body).wp P Q a w := by
  refine (wpIn_wide (n := 9)).1 (wpIn_rangeFunc fun fn _ => ?_)
  obtain ⟨r, hr⟩ : ∃ r : Loop, r = { state := .ready, pending := none, fn, tmps := a.tmps, params := ps, assign, body, defers := w.heap.size } := ⟨_, rfl⟩
  obtain ⟨W1, hW1⟩ : ∃ W1, (w.alloc (.deferred (some []))).alloc (.loop (recAt r .ready none)) = W1 := ⟨_, rfl⟩
  have hsz1 : W1.heap.size = w.heap.size + 2 := by rw [← hW1]; simp
  have hL1 : W1.heap[w.heap.size + 1]? = some (.loop (recAt r .ready none)) := by
    rw [← hW1]; have := World.alloc_heap_new (w.alloc (.deferred (some []))) (.loop (recAt r .ready none)); rwa [World.size_alloc] at this
  have hK1 : W1.heap[w.heap.size]? = some (.deferred (some [])) := by
    rw [← hW1]; exact (Below.heap_alloc _ _ _ (by simp)).trans (World.alloc_heap_new w _)
  have hI1 : ∀ H, W1.heap.size ≤ H → I H [] W1 := fun H hH => by rw [← hW1]; exact (hI H).alloc _ ((hI H).alloc _ (h0 H (by omega)))
  have hb1 : Below w0.heap.size w0 W1 := by
    rw [← hW1]; exact hb0.trans ((((Below.refl _ w).alloc (Nat.le_refl _) _).alloc (by simp) _).mono hb0.size)
  refine ⟨w.heap.size + 1, [{ target := .collected w.heap.size, args := #[] }], W1, { target := .fn (.func gf) lb, args := #[.func (.yield (w.heap.size + 1)) #[] #[]] }, W1, gf,
    #[.func (.yield (w.heap.size + 1)) #[] #[]] ++ lb, W1, ?_, ?_, ?_, ?_, fun _ => by omega, ?_⟩
  · rw [← hW1, hr]; exact run_enterLoop_outer _ _ _ _ _
  · simp only [resolve, hg]
    simp [go_sem]
  · intro f' _; trivial
  · simp [invoke, go_sem, eg]
  · refine (callsIn_wide (n := 9 - 1)).2 ((hseq (w.heap.size + 1)
      (fun H pre W => I H pre W ∧ W.heap[w.heap.size + 1]? = some (.loop (recAt r .ready none)) ∧ W.heap[w.heap.size]? = some (.deferred (some [])))
      (fun H pre W => ∃ c, Ix H c pre W ∧ W.heap[w.heap.size + 1]? = some (.loop (recAt r .done (some c))) ∧ W.heap[w.heap.size]? = some (.deferred (some [])))
      W1 hb1 ?_ ?_ ?_ (fun H hH => ⟨hI1 H hH, hL1, hK1⟩)).mono ?_)
    · intro H s A B row hs hg' hr'
      exact ⟨hI H s A B row hs.1 hg' (fun q e => ⟨by have := (hr' q e).1; omega, (hr' q e).2⟩), grown_far hg' (fun q e => (hr' q e).1) hs.2.1 (by omega), grown_far hg' (fun q e => (hr' q e).1) hs.2.2 (by omega)⟩
    · intro H s A B row hs hg' hr'
      obtain ⟨c, hc, h1, h2⟩ := hs
      exact ⟨c, hIx H c s A B row hc hg' (fun q e => ⟨by have := (hr' q e).1; omega, (hr' q e).2⟩), grown_far hg' (fun q e => (hr' q e).1) h1 (by omega), grown_far hg' (fun q e => (hr' q e).1) h2 (by omega)⟩
    · rintro H pre x W hH hWs ⟨hi, hl, hk⟩ hlen
      have hps' : (encs x).size = r.params.size := by rw [hr]; exact hps x
      have := round_yields (P := P) (l := w.heap.size + 1) (B := w.heap.size) (n₀ := n₀) (H := H) (r := r) (I := I H) (Ix := Ix H) (args := encs x) (pre := pre) (x := x) (W := W) (A := Ax H x) (hI H) (hIx H) (hAx H x) (by omega) (by omega) (by omega) hWs hl hi hps'
        (by rw [hr]; exact fun K hK => hassign _ H pre x W K (by omega) hWs hi hK)
        (by
          intro a' W' hs' hl' hi' hA'
          have := hbody (w.heap.size + 1) H pre x a' W' (by omega) (by omega) hs' ⟨_, hl'⟩ hi' hA' hlen
          rw [hr]; exact this)
      obtain ⟨fn', tm, asg, bo, h1, h2⟩ := this
      refine ⟨fn', tm, asg, bo, h1, fun m => (h2 m).mono ?_⟩
      rintro e W' (⟨rfl, ⟨hi', hl', ho⟩, hkf⟩ | ⟨rfl, ⟨c, hc, hl', ho⟩, hkf⟩)
      · exact .inl ⟨rfl, ⟨hi', hl', (ho _ (Nat.le_refl _) (by omega) (by omega)).trans hk⟩, by rw [hsz1]; exact hkf⟩
      · exact .inr ⟨rfl, ⟨c, hc, hl', (ho _ (Nat.le_refl _) (by omega) (by omega)).trans hk⟩, by rw [hsz1]; exact hkf⟩
    · rintro e W2 ⟨⟨v, rfl⟩, (⟨H, xs, hH, hS, hi, hl, hk⟩ | ⟨H, pre, hH, hSp, c, hi, hl, hk⟩)⟩
      · exact ⟨none, _, run_endLoop (r := recAt r _ _) hl (by simp [recAt]), hdone _ H xs _ (Nat.le_refl _) (by omega) hS ((hI H).putObj _ hi (by omega) hl rfl) ((World.putObj_heap_other (by omega)).trans hk)⟩
      · exact ⟨some c, _, run_endLoop (r := recAt r _ _) hl (by simp [recAt]), wpIn_wide.2 (hstop _ H c pre _ (Nat.le_refl _) (by omega) hSp ((hIx H c).putObj _ hi (by omega) hl rfl) ((World.putObj_heap_other (by omega)).trans hk))⟩

/-- The same, where the loop's variables lie in no box. -/
theorem wp_range_fix {α : Type} {g : Operand} {ps : Array Tmp} {assign body : Code} {Q : Exit → Act → World → Prop} {a : Act} {w : World}
    {gf : Nat} {lb : Array Value} (hg : a.eval g = .func (.func gf) #[] lb) (eg : ∀ args w, (callFunc gf args).run P w = .ok (.enter gf args) w)
    {encs : α → Array Value} {n₀ : Nat} {S Sp : List α → Prop} {T : List α → α → Prop} {w0 : World} (hseq : Iter P gf lb encs n₀ S Sp T w0)
    (hb0 : Below w0.heap.size w0 w) (hn₀ : n₀ ≤ w.heap.size) (hps : ∀ x, (encs x).size = ps.size)
    (I : Nat → List α → World → Prop) (Ix : Nat → Code → List α → World → Prop) (hI : ∀ H, OwnFrom w.heap.size (I H)) (hIx : ∀ H c, OwnFrom w.heap.size (Ix H c)) (h0 : ∀ H, w.heap.size ≤ H → I H [] w) (A : α → Act)
    (hassign : ∀ (l : Nat) (x : α) (W : World) (K : Act → World → Prop), K (A x) W →
      assign.wpIn (Fence.wide.inRound l) 9 P (Exit.then K (fun _ _ _ => False)) { tmps := (ps.zip (encs x)).foldl (fun t (p, v) => t.setIfInBounds p v) a.tmps, defers := [] } W)
    (hbody : ∀ (l H : Nat) (pre : List α) (x : α) (W : World), w.heap.size ≤ l → l < H → H ≤ W.heap.size → (∃ r, W.heap[l]? = some (.loop r)) → I H pre W → T pre x → body.wpIn (Fence.wide.inRound l) 9 P (bodyEnd w.heap.size n₀ H (I H) (Ix H) (pre ++ [x]) W) (A x) W)
    (hdone : ∀ (D H : Nat) (xs : List α) (W : World), w.heap.size ≤ D → w.heap.size ≤ H → S xs → I H xs W → W.heap[D]? = some (.deferred (some [])) → Q .normal { a with defers := { target := .collected D, args := #[] } :: a.defers } W)
    (hstop : ∀ (D H : Nat) (c : Code) (pre : List α) (W : World), w.heap.size ≤ D → w.heap.size ≤ H → Sp pre → Ix H c pre W → W.heap[D]? = some (.deferred (some [])) → c.wp P Q { a with defers := { target := .collected D, args := #[] } :: a.defers } W) :
    (Code.rangeFunc g ps assign body).wp P Q a w := 
  wp_range hg eg hseq hb0 hn₀ hps I Ix hI hIx h0 (fun _ x a' _ => a' = A x) (fun _ _ _ _ _ _ _ hs _ _ => hs)
    (fun l H _ x W K _ _ hi hK => hassign l x W K (hK _ _ (Keeps.refl _ _ _ _) hi rfl))
    (fun l H pre x a' W h1 h2 h3 h4 h5 h6 h7 => by subst h6; exact hbody l H pre x W h1 h2 h3 h4 h5 h7) hdone hstop

/-- **A range over a function in a round of another one.** -/
theorem wpIn_range_in {α : Type} {g : Operand} {ps : Array Tmp} {assign body : Code} {Q : Exit → Act → World → Prop} {a : Act} {w : World}
    {l₀ : Nat} {r₀ : Loop} (hr₀ : w.heap[l₀]? = some (.loop r₀))
    {gf : Nat} {lb : Array Value} (hg : a.eval g = .func (.func gf) #[] lb) (eg : ∀ args w, (callFunc gf args).run P w = .ok (.enter gf args) w)
    {encs : α → Array Value} {n₀ : Nat} {S Sp : List α → Prop} {T : List α → α → Prop} {w0 : World} (hseq : Iter P gf lb encs n₀ S Sp T w0)
    (hb0 : Below w0.heap.size w0 w) (hn₀ : n₀ ≤ w.heap.size) (hps : ∀ x, (encs x).size = ps.size)
    (I : Nat → List α → World → Prop) (Ix : Nat → Code → List α → World → Prop) (hI : ∀ H, OwnFrom w.heap.size (I H)) (hIx : ∀ H c, OwnFrom w.heap.size (Ix H c)) (h0 : ∀ H, w.heap.size ≤ H → I H [] w) (Ax : Nat → α → Act → World → Prop) (hAx : ∀ H x a', OwnFrom w.heap.size (fun (_ : Unit) W => Ax H x a' W))
    (hassign : ∀ (l H : Nat) (pre : List α) (x : α) (W : World) (K : Act → World → Prop), w.heap.size ≤ H → H ≤ W.heap.size → I H pre W → (∀ a' W', Keeps w.heap.size n₀ H W W' → I H pre W' → Ax H x a' W' → K a' W') →
      assign.wpIn (Fence.wide.inRound l) 9 P (Exit.then K (fun _ _ _ => False)) { tmps := (ps.zip (encs x)).foldl (fun t (p, v) => t.setIfInBounds p v) a.tmps, defers := [] } W)
    (hbody : ∀ (l H : Nat) (pre : List α) (x : α) (a' : Act) (W : World), w.heap.size ≤ l → l < H → H ≤ W.heap.size → (∃ r, W.heap[l]? = some (.loop r)) → I H pre W → Ax H x a' W → T pre x → body.wpIn (Fence.wide.inRound l) 9 P (bodyEnd w.heap.size n₀ H (I H) (Ix H) (pre ++ [x]) W) a' W)
    (hdone : ∀ (H : Nat) (xs : List α) (W : World), w.heap.size ≤ H → S xs → I H xs W → Q .normal a W)
    (hstop : ∀ (H : Nat) (c : Code) (pre : List α) (W : World), w.heap.size ≤ H → Sp pre → Ix H c pre W → c.wpIn (Fence.wide.inRound l₀) 9 P Q a W) :
    (Code.rangeFunc g ps assign body).wpIn (Fence.wide.inRound l₀) 9 P Q a w := by
  refine wpIn_rangeFunc fun fn _ => ?_
  obtain ⟨r, hr⟩ : ∃ r : Loop, r = { state := .ready, pending := none, fn, tmps := a.tmps, params := ps, assign, body, defers := r₀.defers } := ⟨_, rfl⟩
  obtain ⟨W1, hW1⟩ : ∃ W1, w.alloc (.loop (recAt r .ready none)) = W1 := ⟨_, rfl⟩
  have hsz1 : W1.heap.size = w.heap.size + 1 := by rw [← hW1]; simp
  have hL1 : W1.heap[w.heap.size]? = some (.loop (recAt r .ready none)) := by rw [← hW1]; exact World.alloc_heap_new w _
  have hI1 : ∀ H, W1.heap.size ≤ H → I H [] W1 := fun H hH => by rw [← hW1]; exact (hI H).alloc _ (h0 H (by omega))
  have hb1 : Below w0.heap.size w0 W1 := by
    rw [← hW1]; exact hb0.trans (((Below.refl _ w).alloc (Nat.le_refl _) _).mono hb0.size)
  refine ⟨w.heap.size, [], W1, { target := .fn (.func gf) lb, args := #[.func (.yield w.heap.size) #[] #[]] }, W1, gf,
    #[.func (.yield w.heap.size) #[] #[]] ++ lb, W1, ?_, ?_, ?_, ?_, fun _ => by omega, ?_⟩
  · rw [← hW1, hr]; exact run_enterLoop_inner hr₀ _ _ _ _ _
  · simp only [resolve, hg]
    simp [go_sem]
  · intro f' _; trivial
  · simp [invoke, go_sem, eg]
  · have hc := (hseq w.heap.size
      (fun H pre W => I H pre W ∧ W.heap[w.heap.size]? = some (.loop (recAt r .ready none)))
      (fun H pre W => ∃ c, Ix H c pre W ∧ W.heap[w.heap.size]? = some (.loop (recAt r .done (some c))))
      W1 hb1
      (by
        intro H s A B row hs hg' hr'
        exact ⟨hI H s A B row hs.1 hg' (fun q e => ⟨by have := (hr' q e).1; omega, (hr' q e).2⟩), grown_far hg' (fun q e => (hr' q e).1) hs.2 (by omega)⟩)
      (by
        intro H s A B row hs hg' hr'
        obtain ⟨c, hc, h1⟩ := hs
        exact ⟨c, hIx H c s A B row hc hg' (fun q e => ⟨by have := (hr' q e).1; omega, (hr' q e).2⟩), grown_far hg' (fun q e => (hr' q e).1) h1 (by omega)⟩)
      (by
        rintro H pre x W hH hWs ⟨hi, hl⟩ hlen
        have hps' : (encs x).size = r.params.size := by rw [hr]; exact hps x
        have := round_yields (P := P) (l := w.heap.size) (B := w.heap.size) (n₀ := n₀) (H := H) (r := r) (I := I H) (Ix := Ix H) (args := encs x) (pre := pre) (x := x) (W := W) (A := Ax H x) (hI H) (hIx H) (hAx H x) (Nat.le_refl _) hn₀ (by omega) hWs hl hi hps'
          (by rw [hr]; exact fun K hK => hassign _ H pre x W K (by omega) hWs hi hK)
          (by
            intro a' W' hs' hl' hi' hA'
            have := hbody w.heap.size H pre x a' W' (Nat.le_refl _) (by omega) hs' ⟨_, hl'⟩ hi' hA' hlen
            rw [hr]; exact this)
        obtain ⟨fn', tm, asg, bo, h1, h2⟩ := this
        refine ⟨fn', tm, asg, bo, h1, fun m => (h2 m).mono ?_⟩
        rintro e W' (⟨rfl, ⟨hi', hl', ho⟩, hkf⟩ | ⟨rfl, ⟨c, hc, hl', ho⟩, hkf⟩)
        · exact .inl ⟨rfl, ⟨hi', hl'⟩, by rw [hsz1]; exact hkf⟩
        · exact .inr ⟨rfl, ⟨c, hc, hl'⟩, by rw [hsz1]; exact hkf⟩)
      (fun H hH => ⟨hI1 H hH, hL1⟩))
    refine (callsIn_wide (n := 9 - 1)).2 (hc.mono ?_)
    rintro e W2 ⟨⟨v, rfl⟩, (⟨H, xs, hH, hS, hi, hl⟩ | ⟨H, pre, hH, hSp, c, hi, hl⟩)⟩
    · exact ⟨none, _, run_endLoop (r := recAt r _ _) hl (by simp [recAt]), hdone H xs _ (by omega) hS ((hI H).putObj _ hi (by omega) hl rfl)⟩
    · exact ⟨some c, _, run_endLoop (r := recAt r _ _) hl (by simp [recAt]), hstop H c pre _ (by omega) hSp ((hIx H c).putObj _ hi (by omega) hl rfl)⟩
end
end Go.Proofs.Ytgkmcooahjoagaa
