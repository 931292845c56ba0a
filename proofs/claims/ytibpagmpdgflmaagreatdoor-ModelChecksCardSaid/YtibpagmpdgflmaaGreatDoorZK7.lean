/- Laws of the walk over any program: a scope with jumps ahead, a range over a function in the plain walk. Slices that read as lists, in worlds that grow. Iterators and loops over them, over any program: an iterator may itself go over another one. Loops over iterators that ask a property of each world in which they go on, over any program. Conditions: none. -/
import Derived.Test.YtibpagmpdgflmaaGreatDoorProg
import Derived.RangeFuncNested
import Derived.RangeFuncBound
import Derived.RangeFuncCalls
import Derived.RangeFuncLeaves
import Derived.Shelf.Abstract
import Derived.Shelf.RegionOpen
import Derived.WalkKit
import Derived.WalkSpells
import Derived.WalkLawsBesides
import Derived.WalkMore
import Derived.WalkSmall
import Derived.OwnWalkIn
import Derived.TacticsInMore
import Derived.LoopNIn
import Derived.LoopIn
import Derived.Outline
import Derived.Laws.RangeAny
import Derived.Lib.OthersKept
import Derived.Lib.Hide
import Derived.BigGuardIn
import Derived.BigQuiet
import Derived.Deep.QuietTactic
namespace Go.Proofs.YtibpagmpdgflmaaGreatDoor
open Go.RowKit

section
variable {P : Program}

/-- A function's contract from its body, which may hold a range over a function. -/
theorem calls_of_wp_marks {f : FuncId} {fn : Func} {c : Code} {args : Array Value} {w : World} {R : Ending → World → Prop}
    (hf : P.funcs[f]? = some fn) (hb : fn.body = some c)
    (h : c.wp P (bodyPostM Fence.wide 9 P fn R) { tmps := args ++ Array.replicate (fn.ntmps - args.size) undef, defers := [] } w) : Calls P f args w R :=
  callsIn_wide.1 (callsIn_of_wp_marks (n := 9) (F := Fence.wide) hf hb trivial (wpIn_wide.2 h))

/-- As Q; by a goto: on behind the label, and so on, m times. -/
def fwd (P : Program) (c : Code) (Q : Exit → Act → World → Prop) : Nat → Exit → Act → World → Prop
  | 0, .goto _, _, _ => False
  | m + 1, .goto l, a, w => ∃ rest, findLabel c l = some rest ∧ rest.wp P (fwd P c Q m) a w
  | _, e, a, w => Q e a w
section
variable {c : Code} {Q : Exit → Act → World → Prop} {m : Nat} {a : Act} {w : World}
@[go_sem] theorem fwd_normal : fwd P c Q m .normal a w = Q .normal a w := by cases m <;> rfl
@[go_sem] theorem fwd_exit (id : Nat) : fwd P c Q m (.exit id) a w = Q (.exit id) a w := by cases m <;> rfl
@[go_sem] theorem fwd_ret : fwd P c Q m .ret a w = Q .ret a w := by cases m <;> rfl
@[go_sem] theorem fwd_panic (ch : List PanicEntry) : fwd P c Q m (.panic ch) a w = Q (.panic ch) a w := by cases m <;> rfl
theorem fwd_outgrown : fwd P c Q m .outgrown a w = Q .outgrown a w := by cases m <;> rfl
theorem fwd_goto {l : Nat} (rest : Code) (h : findLabel c l = some rest) (hr : rest.wp P (fwd P c Q m) a w) : fwd P c Q (m + 1) (.goto l) a w := ⟨rest, h, hr⟩

theorem wp_scope_fwd (m : Nat) (h : c.wp P (fwd P c Q m) a w) : (Code.scope c).wp P Q a w := by
  intro b k cs
  have key : ∀ (m : Nat) (d : Code) (a : Act) (w : World), d.wp P (fwd P c Q m) a w →
      ∃ e a' w', Q e a' w' ∧ Arrives P (lone (b.at a (.code d :: .inScope c :: k)) cs w) b k cs e a' w' := by
    intro m
    induction m with
    | zero =>
      intro d a w hd
      obtain ⟨e, a₁, w₁, hq, harr⟩ := hd b (.inScope c :: k) cs
      cases e with
      | normal => exact ⟨.normal, a₁, w₁, hq, Steps.trans harr (.one step_inScope)⟩
      | exit id => exact ⟨.exit id, a₁, w₁, hq, fun k' hk => harr k' (by simp [exitTo, hk])⟩
      | goto l' => exact hq.elim
      | ret => exact ⟨_, a₁, w₁, hq, harr⟩
      | panic ch => exact ⟨_, a₁, w₁, hq, harr⟩
      | outgrown => exact ⟨_, a₁, w₁, hq, harr⟩
    | succ m ih =>
      intro d a w hd
      obtain ⟨e, a₁, w₁, hq, harr⟩ := hd b (.inScope c :: k) cs
      cases e with
      | normal => exact ⟨.normal, a₁, w₁, hq, Steps.trans harr (.one step_inScope)⟩
      | exit id => exact ⟨.exit id, a₁, w₁, hq, fun k' hk => harr k' (by simp [exitTo, hk])⟩
      | goto l' =>
        obtain ⟨rest, hf, hr⟩ := hq
        have hg : gotoIn l' (.inScope c :: k) = some (.code rest :: .inScope c :: k) := by simp [gotoIn, hf]
        obtain ⟨e₂, a₂, w₂, hq₂, harr₂⟩ := ih rest a₁ w₁ hr
        exact ⟨e₂, a₂, w₂, hq₂, .of_steps (harr _ hg) harr₂⟩
      | ret => exact ⟨_, a₁, w₁, hq, harr⟩
      | panic ch => exact ⟨_, a₁, w₁, hq, harr⟩
      | outgrown => exact ⟨_, a₁, w₁, hq, harr⟩
  obtain ⟨e, a₁, w₁, hq, harr⟩ := key m c a w h
  exact ⟨e, a₁, w₁, hq, .of_steps (.one step_scope) harr⟩
end

/-- A range over a function, in the plain walk. -/
theorem wp_rangeFunc {α : Type} {g : Operand} {ps : Array Tmp} {assign body : Code} {Q : Exit → Act → World → Prop} {a : Act} {w : World}
    {gf : Nat} {lb : Array Value} (hg : a.eval g = .func (.func gf) #[] lb) (eg : ∀ args w, (callFunc gf args).run P w = .ok (.enter gf args) w)
    {encs : α → Array Value} {Kp : World → World → Prop} {S Sp : List α → Prop} {N : Nat} {w0 : World} (hseq : SeqStopsK Fence.wide 8 P gf lb encs Kp S Sp N w0)
    (hKt : ∀ {A B C : World}, Kp A B → Kp B C → Kp A C) (hKb : ∀ (W : World) (l : Nat) (o o' : Obj), w.heap.size ≤ l → W.heap[l]? = some o → o.isCells = false → o.isWalk = false → Kp W (W.putObj l o')) (hb0 : Below w0.heap.size w0 w) (hps : ∀ x, (encs x).size = ps.size)
    (I : List α → World → Prop) (Ix : Code → List α → World → Prop) (hI : OwnFrom w.heap.size I) (hIx : ∀ c, OwnFrom w.heap.size (Ix c)) (h0 : I [] w) (Ax : α → Act → World → Prop) (hAx : ∀ x a', OwnFrom w.heap.size (fun (_ : Unit) W => Ax x a' W))
    (hassign : ∀ (l : Nat) (pre : List α) (x : α) (W : World) (K : Act → World → Prop), I pre W → (∀ a' W', KeepsFrom w.heap.size W W' → Kp W W' → I pre W' → Ax x a' W' → K a' W') →
      assign.wpIn (Fence.wide.inRound l) 7 P (Exit.then K (fun _ _ _ => False)) { tmps := (ps.zip (encs x)).foldl (fun t (p, v) => t.setIfInBounds p v) a.tmps, defers := [] } W)
    (hbody : ∀ (l : Nat) (pre : List α) (x : α) (a' : Act) (W : World), w.heap.size ≤ l → (∃ r, W.heap[l]? = some (.loop r)) → I pre W → Ax x a' W → pre.length < N → body.wpIn (Fence.wide.inRound l) 7 P (ownPostG w.heap.size Kp I Ix (pre ++ [x]) W) a' W)
    (hdone : ∀ (D : Nat) (xs : List α) (W : World), w.heap.size ≤ D → S xs → I xs W → W.heap[D]? = some (.deferred (some [])) → Q .normal { a with defers := { target := .collected D, args := #[] } :: a.defers } W)
    (hstop : ∀ (D : Nat) (c : Code) (pre : List α) (W : World), w.heap.size ≤ D → Sp pre → Ix c pre W → W.heap[D]? = some (.deferred (some [])) → c.wp P Q { a with defers := { target := .collected D, args := #[] } :: a.defers } W) :
    (Code.rangeFunc g ps assign body).wp P Q a w :=
  wpIn_wide.1 (wpIn_rangeFunc_ownH (F := Fence.wide) (n := 9) rfl (by omega) hg trivial eg hseq hKt hKb hb0 hps I Ix hI hIx h0 Ax hAx hassign hbody hdone
    (fun D c pre W h1 h2 h3 h4 => wpIn_wide.2 (hstop D c pre W h1 h2 h3 h4)))

/-- The same, where the loop's variables lie in no box. -/
theorem wp_rangeFunc_fix {α : Type} {g : Operand} {ps : Array Tmp} {assign body : Code} {Q : Exit → Act → World → Prop} {a : Act} {w : World}
    {gf : Nat} {lb : Array Value} (hg : a.eval g = .func (.func gf) #[] lb) (eg : ∀ args w, (callFunc gf args).run P w = .ok (.enter gf args) w)
    {encs : α → Array Value} {Kp : World → World → Prop} {S Sp : List α → Prop} {N : Nat} {w0 : World} (hseq : SeqStopsK Fence.wide 8 P gf lb encs Kp S Sp N w0)
    (hKt : ∀ {A B C : World}, Kp A B → Kp B C → Kp A C) (hKr : ∀ A : World, Kp A A) (hKb : ∀ (W : World) (l : Nat) (o o' : Obj), w.heap.size ≤ l → W.heap[l]? = some o → o.isCells = false → o.isWalk = false → Kp W (W.putObj l o')) (hb0 : Below w0.heap.size w0 w) (hps : ∀ x, (encs x).size = ps.size)
    (I : List α → World → Prop) (Ix : Code → List α → World → Prop) (hI : OwnFrom w.heap.size I) (hIx : ∀ c, OwnFrom w.heap.size (Ix c)) (h0 : I [] w) (A : α → Act)
    (hassign : ∀ (l : Nat) (x : α) (W : World) (K : Act → World → Prop), K (A x) W →
      assign.wpIn (Fence.wide.inRound l) 7 P (Exit.then K (fun _ _ _ => False)) { tmps := (ps.zip (encs x)).foldl (fun t (p, v) => t.setIfInBounds p v) a.tmps, defers := [] } W)
    (hbody : ∀ (l : Nat) (pre : List α) (x : α) (W : World), w.heap.size ≤ l → (∃ r, W.heap[l]? = some (.loop r)) → I pre W → pre.length < N → body.wpIn (Fence.wide.inRound l) 7 P (ownPostG w.heap.size Kp I Ix (pre ++ [x]) W) (A x) W)
    (hdone : ∀ (D : Nat) (xs : List α) (W : World), w.heap.size ≤ D → S xs → I xs W → W.heap[D]? = some (.deferred (some [])) → Q .normal { a with defers := { target := .collected D, args := #[] } :: a.defers } W)
    (hstop : ∀ (D : Nat) (c : Code) (pre : List α) (W : World), w.heap.size ≤ D → Sp pre → Ix c pre W → W.heap[D]? = some (.deferred (some [])) → c.wp P Q { a with defers := { target := .collected D, args := #[] } :: a.defers } W) :
    (Code.rangeFunc g ps assign body).wp P Q a w :=
  wp_rangeFunc hg eg hseq hKt hKb hb0 hps I Ix hI hIx h0 (fun x a' _ => a' = A x) (fun _ _ _ _ _ _ hs _ _ => hs)
    (fun l _ x W K hi hK => hassign l x W K (hK _ _ (KeepsFrom.refl _ _) (hKr _) hi rfl))
    (fun l pre x a' W h1 h2 h3 h4 h5 => by subst h4; exact hbody l pre x W h1 h2 h3 h5) hdone hstop

/-- At a return behind a range over a function. -/
theorem ret_mark {fn : Func} {R : Ending → World → Prop} {tmps : Array Value} {W : World} {D : Nat} {v : Value}
    (hK : W.heap[D]? = some (.deferred (some []))) (hr : (results fn tmps).run P (W.putObj D (.deferred none)) = .ok v (W.putObj D (.deferred none)))
    (h : R (.returned v) (W.putObj D (.deferred none))) : bodyPostM Fence.wide 9 P fn R .ret { tmps := tmps, defers := [{ target := .collected D, args := #[] }] } W :=
  ⟨by simp, .inl ⟨_, _, rfl, run_takeDeferred hK, ⟨_, hr, h⟩⟩⟩
theorem end_mark {fn : Func} {R : Ending → World → Prop} {tmps : Array Value} {W : World} {D : Nat} {v : Value}
    (hK : W.heap[D]? = some (.deferred (some []))) (hr : (results fn tmps).run P (W.putObj D (.deferred none)) = .ok v (W.putObj D (.deferred none)))
    (h : R (.returned v) (W.putObj D (.deferred none))) : bodyPostM Fence.wide 9 P fn R .normal { tmps := tmps, defers := [{ target := .collected D, args := #[] }] } W :=
  ⟨by simp, .inl ⟨_, _, rfl, run_takeDeferred hK, ⟨_, hr, h⟩⟩⟩
/-- At a return ahead of it. -/
theorem ret_plain {fn : Func} {R : Ending → World → Prop} {tmps : Array Value} {W : World} {v : Value}
    (hr : (results fn tmps).run P W = .ok v W) (h : R (.returned v) W) : bodyPostM Fence.wide 9 P fn R .ret { tmps := tmps, defers := [] } W :=
  ⟨_, hr, h⟩
theorem below_mark {w W : World} {D : Nat} (h : Below w.heap.size w W) (hD : w.heap.size ≤ D) (hK : W.heap[D]? = some (.deferred (some []))) : Below w.heap.size w (W.putObj D (.deferred none)) :=
  h.trans (belowK_b (w := w) (Nat.le_refl _) W D _ _ hD hK rfl rfl)
end
end Go.Proofs.YtibpagmpdgflmaaGreatDoor

namespace Go.Proofs.YtibpagmpdgflmaaGreatDoor
open Go.RowKit

/-- A slice's cells, one by one. -/
def RowAt (w : World) (A : Option Addr) (cs : List Value) : Prop :=
  0 < cs.length → ∃ b off, A = some ⟨b, off, none⟩ ∧ b < w.heap.size ∧ ∀ k u, cs[k]? = some u → w.cell? ⟨b, off + k, none⟩ = some u

section
variable {w w' : World} {A : Option Addr} {cs : List Value}
theorem RowAt.nil : RowAt w A [] := fun h => absurd h (by simp)
theorem RowAt.keep (h : RowAt w A cs) (hs : w.heap.size ≤ w'.heap.size) (hk : ∀ p : Addr, p.block < w.heap.size → w'.cell? p = w.cell? p) : RowAt w' A cs := fun hn => by
  obtain ⟨b, off, e, hb, hc⟩ := h hn
  exact ⟨b, off, e, by omega, fun k u hu => (hk _ hb).trans (hc k u hu)⟩
theorem RowAt.below (h : RowAt w A cs) (hb : Below w.heap.size w w') : RowAt w' A cs := h.keep hb.size fun _ hp => hb.cell hp
theorem RowAt.alloc (h : RowAt w A cs) (o : Obj) : RowAt (w.alloc o) A cs := h.below ((Below.refl _ _).alloc (Nat.le_refl _) _)
theorem RowAt.drew (h : RowAt w A cs) : RowAt w.drew A cs := h
theorem RowAt.drewN (h : RowAt w A cs) (k : Nat) : RowAt (w.drewN k) A cs := h
theorem RowAt.below_of {B : Nat} (h : RowAt w A cs) (hb : Below B w w') (hB : ∀ b off, A = some ⟨b, off, none⟩ → b < B) : RowAt w' A cs := fun hn => by
  obtain ⟨b, off, e, hb', hc⟩ := h hn
  exact ⟨b, off, e, by have := hb.size; omega, fun k u hu => (hb.cell (p := ⟨b, off + k, none⟩) (hB b off e)).trans (hc k u hu)⟩
theorem RowAt.take (h : RowAt w A cs) (n : Nat) : RowAt w A (cs.take n) := fun hn => by
  have : 0 < cs.length := by rw [List.length_take] at hn; omega
  obtain ⟨b, off, e, hb, hc⟩ := h this
  refine ⟨b, off, e, hb, fun k u hu => hc k u ?_⟩
  rw [List.getElem?_take] at hu
  split at hu
  · exact hu
  · cases hu
theorem RowAt.get (h : RowAt w A cs) {k : Nat} {u : Value} (hk : cs[k]? = some u) : ∃ b off, A = some ⟨b, off, none⟩ ∧ b < w.heap.size ∧ w.cell? ⟨b, off + k, none⟩ = some u := by
  obtain ⟨b, off, e, hb, hc⟩ := h (by have := (List.getElem?_eq_some_iff.1 hk).1; omega)
  exact ⟨b, off, e, hb, hc k u hk⟩
end
theorem cells_after {W w1 : World} (hb : Below W.heap.size W w1) : (∀ b o, b < W.heap.size → w1.cell? ⟨b, o, none⟩ = W.cell? ⟨b, o, none⟩) ∧ (∀ b o, b < W.heap.size → w1.frozen? ⟨b, o, none⟩ = W.frozen? ⟨b, o, none⟩) :=
  ⟨fun b o h => hb.cell (p := ⟨b, o, none⟩) h, fun b o h => hb.frozen (p := ⟨b, o, none⟩) h⟩
theorem below_trans {W w1 w2 : World} (h1 : Below W.heap.size W w1) (h2 : Below w1.heap.size w1 w2) : Below W.heap.size W w2 := h1.trans (h2.mono h1.size)
theorem ret_int' {k : IntKind} {a b : Int} (h : a = b) : Ending.returned (.int k a) = .returned (.int k b) := by rw [h]
theorem ret_bool' {a b : Bool} (h : a = b) : Ending.returned (.bool a) = .returned (.bool b) := by rw [h]
end Go.Proofs.YtibpagmpdgflmaaGreatDoor

namespace Go.Proofs.YtibpagmpdgflmaaGreatDoor
open Go.RowKit

section
variable {P : Program}

/-- A call of yield. -/
def Yields (P : Program) (l : Nat) (args : Array Value) (W : World) (R : Ending → World → Prop) : Prop :=
  ∃ fn tmps assign body, (Instr.yield l args).run P W = .ok (.round l fn tmps assign body) W ∧ ∀ m, RoundIn Fence.wide m P l fn tmps assign body W R

theorem yields_bool {l : Nat} {args : Array Value} {W : World} {A B : World → Prop} (h : Yields P l args W fun e W' => (e = .returned (.bool true) ∧ A W') ∨ (e = .returned (.bool false) ∧ B W')) :
    Yields P l args W fun e W' => ∃ bb, e = .returned (.bool bb) ∧ Hid ((bb = true ∧ A W') ∨ (bb = false ∧ B W')) := by
  obtain ⟨fn, tm, asg, bo, h1, h2⟩ := h
  refine ⟨fn, tm, asg, bo, h1, fun m => (h2 m).mono ?_⟩
  rintro e W' (⟨he, ha⟩ | ⟨he, hb⟩)
  · exact ⟨true, he, .inl ⟨rfl, ha⟩⟩
  · exact ⟨false, he, .inr ⟨rfl, hb⟩⟩

/-- What a round's body keeps: what lay below n₀; what is no cells, from B on; all of the iterator's own blocks, from B to H. -/
structure Keeps (B n₀ H : Nat) (W W' : World) : Prop where
  below : Below n₀ W W'
  others : ∀ (k : Nat) (o : Obj), B ≤ k → W.heap[k]? = some o → o.isCells = false → W'.heap[k]? = some o
  mine : ∀ k, B ≤ k → k < H → W'.heap[k]? = W.heap[k]?

theorem Keeps.size {B n₀ H : Nat} {W W' : World} (h : Keeps B n₀ H W W') : W.heap.size ≤ W'.heap.size := h.below.size
theorem Keeps.refl (B n₀ H : Nat) (W : World) : Keeps B n₀ H W W := ⟨Below.refl _ _, fun _ _ _ h _ => h, fun _ _ _ => rfl⟩
theorem Keeps.trans {B n₀ H : Nat} {X Y Z : World} (h : Keeps B n₀ H X Y) (k : Keeps B n₀ H Y Z) : Keeps B n₀ H X Z :=
  ⟨h.below.trans k.below, fun i o hi ho hc => k.others i o hi (h.others i o hi ho hc) hc, fun i hi hH => (k.mine i hi hH).trans (h.mine i hi hH)⟩
theorem Keeps.mono {B B' n₀ n₀' H : Nat} {W W' : World} (h : Keeps B n₀ H W W') (hB : B ≤ B') (hn : n₀' ≤ n₀) : Keeps B' n₀' H W W' :=
  ⟨h.below.mono hn, fun i o hi => h.others i o (by omega), fun i hi => h.mine i (by omega)⟩
theorem Keeps.cell {B n₀ H : Nat} {W W' : World} (h : Keeps B n₀ H W W') {p : Addr} (hp : p.block < n₀ ∨ (B ≤ p.block ∧ p.block < H)) : W'.cell? p = W.cell? p := by
  rcases hp with hp | ⟨h1, h2⟩
  · exact h.below.cell hp
  · exact World.cell?_of_block (h.mine _ h1 h2)
/-- New blocks and nothing else. -/
theorem Keeps.of_below {B n₀ H : Nat} {W W' : World} (h : Below W.heap.size W W') (hn : n₀ ≤ W.heap.size) (hH : H ≤ W.heap.size) : Keeps B n₀ H W W' :=
  ⟨h.mono hn, fun k o _ ho _ => (h.block k (Array.getElem?_eq_some_iff.1 ho).1).trans ho, fun k _ hk => h.block k (by omega)⟩
theorem Keeps.drew (B n₀ H : Nat) (W : World) : Keeps B n₀ H W W.drew := ⟨(Below.refl _ _).drew, fun _ _ _ h _ => h, fun _ _ _ => rfl⟩
theorem Keeps.drewN (B n₀ H : Nat) (W : World) (n : Nat) : Keeps B n₀ H W (W.drewN n) := ⟨below_drewN (Below.refl _ _) n, fun _ _ _ h _ => h, fun _ _ _ => rfl⟩
theorem Keeps.alloc {B n₀ H : Nat} (W : World) (o : Obj) (hn : n₀ ≤ W.heap.size) (hH : H ≤ W.heap.size) : Keeps B n₀ H W (W.alloc o) :=
  Keeps.of_below ((Below.refl _ _).alloc (Nat.le_refl _) _) hn hH
theorem Keeps.setCell {B n₀ H : Nat} (W : World) (p : Addr) (v : Value) (hn : n₀ ≤ p.block) (hH : p.block < B ∨ H ≤ p.block) : Keeps B n₀ H W (W.setCell p v) :=
  ⟨(Below.refl _ _).setCell hn v, fun k o hk ho hc => (KeepsOthers.setCell W p v).same k o ho hc, fun k hk hkH => Below.heap_setCell W p v k (by omega)⟩
theorem Keeps.of_grownBy {B n₀ H : Nat} {W W' : World} {row : Option Nat} (hg : W.grownBy W' row) (hn : n₀ ≤ W.heap.size) (hH : H ≤ W.heap.size)
    (hr : ∀ r, row = some r → n₀ ≤ r ∧ (r < B ∨ H ≤ r) ∧ ∀ o, W.heap[r]? = some o → o.isCells = true) : Keeps B n₀ H W W' := by
  refine ⟨(Below.refl _ _).grown hg hn (fun k e => (hr k e).1), fun k o hk ho hc => ?_, fun k hk hkH => ?_⟩
  · refine (hg.block k (Array.getElem?_eq_some_iff.1 ho).1 (fun e => ?_)).trans ho
    have := (hr k e.symm).2.2 o ho
    rw [hc] at this; cases this
  · refine hg.block k (by omega) (fun e => ?_)
    have := (hr k e.symm).2.1
    omega

/-- An iterator: what comes of its value, called in any later world with any loop's yield. H: where its own first blocks end. -/
def Iter {α : Type} (P : Program) (g : Nat) (lb : Array Value) (encs : α → Array Value) (n₀ : Nat) (S Sp : List α → Prop) (T : List α → α → Prop) (w₀ : World) : Prop :=
  ∀ (l : Nat) (J Jx : Nat → List α → World → Prop) (W : World), Below w₀.heap.size w₀ W → (∀ H, OwnFrom W.heap.size (J H)) → (∀ H, OwnFrom W.heap.size (Jx H)) →
    (∀ H pre x W1, W.heap.size ≤ H → H ≤ W1.heap.size → J H pre W1 → T pre x → Yields P l (encs x) W1 fun e W' =>
      (e = .returned (.bool true) ∧ J H (pre ++ [x]) W' ∧ Keeps W.heap.size n₀ H W1 W') ∨ (e = .returned (.bool false) ∧ Jx H (pre ++ [x]) W' ∧ Keeps W.heap.size n₀ H W1 W')) →
    (∀ H, W.heap.size ≤ H → J H [] W) →
    Calls P g (#[.func (.yield l) #[] #[]] ++ lb) W fun e W' => (∃ v, e = .returned v) ∧ ((∃ H xs, W.heap.size ≤ H ∧ S xs ∧ J H xs W') ∨ (∃ H pre, W.heap.size ≤ H ∧ Sp pre ∧ Jx H pre W'))

theorem ownFrom_mono {β : Type} {B B' : Nat} {I : β → World → Prop} (h : OwnFrom B I) (hB : B ≤ B') : OwnFrom B' I :=
  fun s W W' row hs hg hr => h s W W' row hs hg (fun r e => ⟨Nat.le_trans hB (hr r e).1, (hr r e).2⟩)
theorem OwnFrom.below {β : Type} {B : Nat} {I : β → World → Prop} (h : OwnFrom B I) {s : β} {W W' : World} (hs : I s W) (hb : Below W.heap.size W W') : I s W' :=
  h s W W' none hs ⟨hb.os, hb.tape, hb.output, hb.size, fun k hk _ => hb.block k hk⟩ (fun r e => by cases e)
/-- A block that is far from what may be turned. -/
theorem grown_far {W W' : World} {row : Option Nat} {B k : Nat} {o : Obj} (hg : W.grownBy W' row) (hr : ∀ r, row = some r → B ≤ r) (hk : W.heap[k]? = some o) (hB : k < B) : W'.heap[k]? = some o :=
  (hg.block k (Array.getElem?_eq_some_iff.1 hk).1 (fun e => by have := hr k e.symm; omega)).trans hk

/-- How a round's body may be left. -/
def bodyEnd {α : Type} (B n₀ H : Nat) (I : List α → World → Prop) (Ix : Code → List α → World → Prop) (xs : List α) (W : World) : Exit → Act → World → Prop
  | .normal, _, W' => Keeps B n₀ H W W' ∧ I xs W'
  | .ret, _, W' => Keeps B n₀ H W W' ∧ Ix .ret xs W'
  | .exit id, _, W' => Keeps B n₀ H W W' ∧ Ix (.exit id) xs W'
  | .goto t, _, W' => Keeps B n₀ H W W' ∧ Ix (.goto t) xs W'
  | .panic _, _, _ => False
  | .outgrown, _, _ => False

/-- A loop's record as it stands. -/
def recAt (r : Loop) (s : LoopState) (j : Option Code) : Loop := { r with state := s, pending := j }

/-- What one round does. -/
theorem round_yields {α : Type} {l B n₀ H : Nat} {r : Loop} {I : List α → World → Prop} {Ix : Code → List α → World → Prop} {args : Array Value} {pre : List α} {x : α} {W : World} {A : Act → World → Prop}
    (hIo : OwnFrom B I) (hIxo : ∀ c, OwnFrom B (Ix c)) (hAo : ∀ a', OwnFrom B (fun (_ : Unit) W => A a' W)) (hBl : B ≤ l) (hn₀ : n₀ ≤ l) (_hlH : l < H) (hHW : H ≤ W.heap.size)
    (hl : W.heap[l]? = some (.loop (recAt r .ready none))) (_hi : I pre W) (hsz : args.size = r.params.size)
    (hassign : ∀ K : Act → World → Prop, (∀ a' W', Keeps B n₀ H W W' → I pre W' → A a' W' → K a' W') →
      r.assign.wpIn (Fence.wide.inRound l) 9 P (Exit.then K (fun _ _ _ => False)) { tmps := (r.params.zip args).foldl (fun t (p, v) => t.setIfInBounds p v) r.tmps, defers := [] } W)
    (hbody : ∀ a' W', H ≤ W'.heap.size → W'.heap[l]? = some (.loop (recAt r .busy none)) → I pre W' → A a' W' → r.body.wpIn (Fence.wide.inRound l) 9 P (bodyEnd B n₀ H I Ix (pre ++ [x]) W') a' W') :
    Yields P l args W fun e W' =>
      (e = .returned (.bool true) ∧ (I (pre ++ [x]) W' ∧ W'.heap[l]? = some (.loop (recAt r .ready none)) ∧ (∀ k, B ≤ k → k < H → k ≠ l → W'.heap[k]? = W.heap[k]?)) ∧ Keeps (l + 1) n₀ H W W') ∨
      (e = .returned (.bool false) ∧ (∃ c, Ix c (pre ++ [x]) W' ∧ W'.heap[l]? = some (.loop (recAt r .done (some c))) ∧ (∀ k, B ≤ k → k < H → k ≠ l → W'.heap[k]? = W.heap[k]?)) ∧ Keeps (l + 1) n₀ H W W') := by
  refine ⟨r.fn, _, r.assign, r.body, run_yield (r := recAt r .ready none) hl hsz, fun m => ?_⟩
  have key : RoundIn Fence.wide 9 P l r.fn ((r.params.zip args).foldl (fun t (p, v) => t.setIfInBounds p v) r.tmps) r.assign r.body W fun e W' =>
      (e = .returned (.bool true) ∧ (I (pre ++ [x]) W' ∧ W'.heap[l]? = some (.loop (recAt r .ready none)) ∧ (∀ k, B ≤ k → k < H → k ≠ l → W'.heap[k]? = W.heap[k]?)) ∧ Keeps (l + 1) n₀ H W W') ∨
      (e = .returned (.bool false) ∧ (∃ c, Ix c (pre ++ [x]) W' ∧ W'.heap[l]? = some (.loop (recAt r .done (some c))) ∧ (∀ k, B ≤ k → k < H → k ≠ l → W'.heap[k]? = W.heap[k]?)) ∧ Keeps (l + 1) n₀ H W W') := by
    refine roundIn_of_wpIn trivial (hassign _ ?_)
    intro a' W1 hk1 hi1 hA1
    have hl1 := hk1.others l _ hBl hl rfl
    refine ⟨_, run_beginRound (r := recAt r .ready none) hl1 rfl, ?_⟩
    have hlt1 : l < W1.heap.size := (Array.getElem?_eq_some_iff.1 hl1).1
    have hs1 := hk1.size
    have hl2 : (W1.putObj l (.loop (recAt r .busy none))).heap[l]? = some (.loop (recAt r .busy none)) := World.putObj_heap_same hlt1
    refine wpIn_mono (hbody a' _ (by simp; omega) hl2 (hIo.putObj _ hi1 hBl hl1 rfl) ((hAo a').putObj (s := ()) _ hA1 hBl hl1 rfl)) ?_
    have hb2 : Below n₀ W1 (W1.putObj l (.loop (recAt r .busy none))) := (Below.refl n₀ W1).grown (grownBy_putObj' W1 l _) (by omega) (fun k e => by cases e; omega)
    have fin : ∀ (j : Option Code) (W3 : World), Keeps B n₀ H (W1.putObj l (.loop (recAt r .busy none))) W3 →
        (Instr.endRound l j).run P W3 = .ok (.bool j.isNone) (W3.putObj l (.loop (recAt r (if j.isNone then .ready else .done) j))) ∧
        W3.heap[l]? = some (.loop (recAt r .busy none)) ∧
        (W3.putObj l (.loop (recAt r (if j.isNone then .ready else .done) j))).heap[l]? = some (.loop (recAt r (if j.isNone then .ready else .done) j)) ∧
        (∀ k, B ≤ k → k < H → k ≠ l → (W3.putObj l (.loop (recAt r (if j.isNone then .ready else .done) j))).heap[k]? = W.heap[k]?) ∧
        (∀ k o, B ≤ k → k ≠ l → W.heap[k]? = some o → o.isCells = false → (W3.putObj l (.loop (recAt r (if j.isNone then .ready else .done) j))).heap[k]? = some o) ∧
        Below n₀ W (W3.putObj l (.loop (recAt r (if j.isNone then .ready else .done) j))) := fun j W3 hk3 => by
      have hl3 := hk3.others l _ hBl hl2 rfl
      refine ⟨run_endRound (r := recAt r .busy none) j hl3, hl3, World.putObj_heap_same (Array.getElem?_eq_some_iff.1 hl3).1, fun k hk hkH hne => ?_, fun k o hk hne ho hc => ?_,
        (hk1.below.trans (hb2.trans hk3.below)).trans ((Below.refl n₀ W3).grown (grownBy_putObj' W3 l _) (by have := hk3.size; simp at this; omega) (fun k e => by cases e; omega))⟩
      · rw [World.putObj_heap_other hne, hk3.mine k hk hkH, World.putObj_heap_other hne, hk1.mine k hk hkH]
      · rw [World.putObj_heap_other hne]
        exact hk3.others k o hk ((World.putObj_heap_other hne).trans (hk1.others k o hk ho hc)) hc
    rintro e a3 W3 hp
    cases e with
    | normal =>
      obtain ⟨hk3, hi3⟩ := hp
      obtain ⟨hr, hl3, hl4, hm, ho, hbl⟩ := fin none W3 hk3
      exact ⟨_, _, hr, .inl ⟨rfl, ⟨hIo.putObj _ hi3 hBl hl3 rfl, hl4, hm⟩, hbl, fun k o hk => ho k o (by omega) (by omega), fun k hk hkH => hm k (by omega) hkH (by omega)⟩⟩
    | ret =>
      obtain ⟨hk3, hi3⟩ := hp
      obtain ⟨hr, hl3, hl4, hm, ho, hbl⟩ := fin (some .ret) W3 hk3
      exact ⟨_, _, hr, .inr ⟨rfl, ⟨.ret, (hIxo _).putObj _ hi3 hBl hl3 rfl, hl4, hm⟩, hbl, fun k o hk => ho k o (by omega) (by omega), fun k hk hkH => hm k (by omega) hkH (by omega)⟩⟩
    | exit id =>
      obtain ⟨hk3, hi3⟩ := hp
      obtain ⟨hr, hl3, hl4, hm, ho, hbl⟩ := fin (some (.exit id)) W3 hk3
      exact ⟨_, _, hr, .inr ⟨rfl, ⟨.exit id, (hIxo _).putObj _ hi3 hBl hl3 rfl, hl4, hm⟩, hbl, fun k o hk => ho k o (by omega) (by omega), fun k hk hkH => hm k (by omega) hkH (by omega)⟩⟩
    | goto t =>
      obtain ⟨hk3, hi3⟩ := hp
      obtain ⟨hr, hl3, hl4, hm, ho, hbl⟩ := fin (some (.goto t)) W3 hk3
      exact ⟨_, _, hr, .inr ⟨rfl, ⟨.goto t, (hIxo _).putObj _ hi3 hBl hl3 rfl, hl4, hm⟩, hbl, fun k o hk => ho k o (by omega) (by omega), fun k hk hkH => hm k (by omega) hkH (by omega)⟩⟩
    | panic ch => exact hp.elim
    | outgrown => exact hp.elim
  exact ⟨key.1, fun c cs _ => key.2 c cs (room_wide _)⟩

/-- **A range over a function, in the plain walk.** -/
theorem wp_range {α : Type} {g : Operand} {ps : Array Tmp} {assign body : Code} {Q : Exit → Act → World → Prop} {a : Act} {w : World}
    {gf : Nat} {lb : Array Value} (hg : a.eval g = .func (.func gf) #[] lb) (eg : ∀ args w, (callFunc gf args).run P w = .ok (.enter gf args) w)
    {encs : α → Array Value} {n₀ : Nat} {S Sp : List α → Prop} {T : List α → α → Prop} {w0 : World} (hseq : Iter P gf lb encs n₀ S Sp T w0)
    (hb0 : Below w0.heap.size w0 w) (hn₀ : n₀ ≤ w.heap.size) (hps : ∀ x, (encs x).size = ps.size)
    (I : Nat → List α → World → Prop) (Ix : Nat → Code → List α → World → Prop) (hI : ∀ H, OwnFrom w.heap.size (I H)) (hIx : ∀ H c, OwnFrom w.heap.size (Ix H c)) (h0 : ∀ H, w.heap.size ≤ H → I H [] w) (Ax : Nat → α → Act → World → Prop) (hAx : ∀ H x a', OwnFrom w.heap.size (fun (_ : Unit) W => Ax H x a' W))
    (hassign : ∀ (l H : Nat) (pre : List α) (x : α) (W : World) (K : Act → World → Prop), w.heap.size ≤ H → H ≤ W.heap.size → I H pre W → (∀ a' W', Keeps w.heap.size n₀ H W W' → I H pre W' → Ax H x a' W' → K a' W') →
      assign.wpIn (Fence.wide.inRound l) 9 P (Exit.then K (fun _ _ _ => False)) { tmps := (ps.zip (encs x)).foldl (fun t (p, v) => t.setIfInBounds p v) a.tmps, defers := [] } W)
    (hbody : ∀ (l H : Nat) (pre : List α) (x : α) (a' : Act) (W : World), w.heap.size ≤ l → l < H → H ≤ W.heap.size → (∃ r, W.heap[l]? = some (.loop r)) → I H pre W → Ax H x a' W → T pre x → body.wpIn (Fence.wide.inRound l) 9 P (bodyEnd w.heap.size n₀ H (I H) (Ix H) (pre ++ [x]) W) a' W)
    (hdone : ∀ (D H : Nat) (xs : List α) (W : World), w.heap.size ≤ D → w.heap.size ≤ H → S xs → I H xs W → W.heap[D]? = some (.deferred (some [])) → Q .normal { a with defers := { target := .collected D, args := #[] } :: a.defers } W)
    (hstop : ∀ (D H : Nat) (c : Code) (pre : List α) (W : World), w.heap.size ≤ D → w.heap.size ≤ H → Sp pre → Ix H c pre W → W.heap[D]? = some (.deferred (some [])) → c.wp P Q { a with defers := { target := .collected D, args := #[] } :: a.defers } W) :
    (Code.rangeFunc g ps assign body).wp P Q a w := by
  refine (wpIn_wide (n := 9)).1 (wpIn_rangeFunc fun fn _ => ?_)
  obtain ⟨r, hr⟩ : ∃ r : Loop, r = { state := .ready, pending := none, fn, tmps := a.tmps, params := ps, assign, body, defers := w.heap.size } := ⟨_, rfl⟩
  obtain ⟨W1, hW1⟩ : ∃ W1, (w.alloc (.deferred (some []))).alloc (.loop (recAt r .ready none)) = W1 := ⟨_, rfl⟩
  have hsz1 : W1.heap.size = w.heap.size + 2 := by rw [← hW1]; simp
  have hL1 : W1.heap[w.heap.size + 1]? = some (.loop (recAt r .ready none)) := by
    rw [← hW1]; have := World.alloc_heap_new (w.alloc (.deferred (some []))) (.loop (recAt r .ready none)); rwa [World.size_alloc] at this
  have hK1 : W1.heap[w.heap.size]? = some (.deferred (some [])) := by
    rw [← hW1]; exact (Below.heap_alloc _ _ _ (by simp)).trans (World.alloc_heap_new w _)
  have hI1 : ∀ H, W1.heap.size ≤ H → I H [] W1 := fun H hH => by rw [← hW1]; exact (hI H).alloc _ ((hI H).alloc _ (h0 H (by omega)))
  have hb1 : Below w0.heap.size w0 W1 := by
    rw [← hW1]; exact hb0.trans ((((Below.refl _ w).alloc (Nat.le_refl _) _).alloc (by simp) _).mono hb0.size)
  refine ⟨w.heap.size + 1, [{ target := .collected w.heap.size, args := #[] }], W1, { target := .fn (.func gf) lb, args := #[.func (.yield (w.heap.size + 1)) #[] #[]] }, W1, gf,
    #[.func (.yield (w.heap.size + 1)) #[] #[]] ++ lb, W1, ?_, ?_, ?_, ?_, fun _ => by omega, ?_⟩
  · rw [← hW1, hr]; exact run_enterLoop_outer _ _ _ _ _
  · simp only [resolve, hg]
    simp [go_sem]
  · intro f' _; trivial
  · simp [invoke, go_sem, eg]
  · refine (callsIn_wide (n := 9 - 1)).2 ((hseq (w.heap.size + 1)
      (fun H pre W => I H pre W ∧ W.heap[w.heap.size + 1]? = some (.loop (recAt r .ready none)) ∧ W.heap[w.heap.size]? = some (.deferred (some [])))
      (fun H pre W => ∃ c, Ix H c pre W ∧ W.heap[w.heap.size + 1]? = some (.loop (recAt r .done (some c))) ∧ W.heap[w.heap.size]? = some (.deferred (some [])))
      W1 hb1 ?_ ?_ ?_ (fun H hH => ⟨hI1 H hH, hL1, hK1⟩)).mono ?_)
    · intro H s A B row hs hg' hr'
      exact ⟨hI H s A B row hs.1 hg' (fun q e => ⟨by have := (hr' q e).1; omega, (hr' q e).2⟩), grown_far hg' (fun q e => (hr' q e).1) hs.2.1 (by omega), grown_far hg' (fun q e => (hr' q e).1) hs.2.2 (by omega)⟩
    · intro H s A B row hs hg' hr'
      obtain ⟨c, hc, h1, h2⟩ := hs
      exact ⟨c, hIx H c s A B row hc hg' (fun q e => ⟨by have := (hr' q e).1; omega, (hr' q e).2⟩), grown_far hg' (fun q e => (hr' q e).1) h1 (by omega), grown_far hg' (fun q e => (hr' q e).1) h2 (by omega)⟩
    · rintro H pre x W hH hWs ⟨hi, hl, hk⟩ hlen
      have hps' : (encs x).size = r.params.size := by rw [hr]; exact hps x
      have := round_yields (P := P) (l := w.heap.size + 1) (B := w.heap.size) (n₀ := n₀) (H := H) (r := r) (I := I H) (Ix := Ix H) (args := encs x) (pre := pre) (x := x) (W := W) (A := Ax H x) (hI H) (hIx H) (hAx H x) (by omega) (by omega) (by omega) hWs hl hi hps'
        (by rw [hr]; exact fun K hK => hassign _ H pre x W K (by omega) hWs hi hK)
        (by
          intro a' W' hs' hl' hi' hA'
          have := hbody (w.heap.size + 1) H pre x a' W' (by omega) (by omega) hs' ⟨_, hl'⟩ hi' hA' hlen
          rw [hr]; exact this)
      obtain ⟨fn', tm, asg, bo, h1, h2⟩ := this
      refine ⟨fn', tm, asg, bo, h1, fun m => (h2 m).mono ?_⟩
      rintro e W' (⟨rfl, ⟨hi', hl', ho⟩, hkf⟩ | ⟨rfl, ⟨c, hc, hl', ho⟩, hkf⟩)
      · exact .inl ⟨rfl, ⟨hi', hl', (ho _ (Nat.le_refl _) (by omega) (by omega)).trans hk⟩, by rw [hsz1]; exact hkf⟩
      · exact .inr ⟨rfl, ⟨c, hc, hl', (ho _ (Nat.le_refl _) (by omega) (by omega)).trans hk⟩, by rw [hsz1]; exact hkf⟩
    · rintro e W2 ⟨⟨v, rfl⟩, (⟨H, xs, hH, hS, hi, hl, hk⟩ | ⟨H, pre, hH, hSp, c, hi, hl, hk⟩)⟩
      · exact ⟨none, _, run_endLoop (r := recAt r _ _) hl (by simp [recAt]), hdone _ H xs _ (Nat.le_refl _) (by omega) hS ((hI H).putObj _ hi (by omega) hl rfl) ((World.putObj_heap_other (by omega)).trans hk)⟩
      · exact ⟨some c, _, run_endLoop (r := recAt r _ _) hl (by simp [recAt]), wpIn_wide.2 (hstop _ H c pre _ (Nat.le_refl _) (by omega) hSp ((hIx H c).putObj _ hi (by omega) hl rfl) ((World.putObj_heap_other (by omega)).trans hk))⟩

/-- The same, where the loop's variables lie in no box. -/
theorem wp_range_fix {α : Type} {g : Operand} {ps : Array Tmp} {assign body : Code} {Q : Exit → Act → World → Prop} {a : Act} {w : World}
    {gf : Nat} {lb : Array Value} (hg : a.eval g = .func (.func gf) #[] lb) (eg : ∀ args w, (callFunc gf args).run P w = .ok (.enter gf args) w)
    {encs : α → Array Value} {n₀ : Nat} {S Sp : List α → Prop} {T : List α → α → Prop} {w0 : World} (hseq : Iter P gf lb encs n₀ S Sp T w0)
    (hb0 : Below w0.heap.size w0 w) (hn₀ : n₀ ≤ w.heap.size) (hps : ∀ x, (encs x).size = ps.size)
    (I : Nat → List α → World → Prop) (Ix : Nat → Code → List α → World → Prop) (hI : ∀ H, OwnFrom w.heap.size (I H)) (hIx : ∀ H c, OwnFrom w.heap.size (Ix H c)) (h0 : ∀ H, w.heap.size ≤ H → I H [] w) (A : α → Act)
    (hassign : ∀ (l : Nat) (x : α) (W : World) (K : Act → World → Prop), K (A x) W →
      assign.wpIn (Fence.wide.inRound l) 9 P (Exit.then K (fun _ _ _ => False)) { tmps := (ps.zip (encs x)).foldl (fun t (p, v) => t.setIfInBounds p v) a.tmps, defers := [] } W)
    (hbody : ∀ (l H : Nat) (pre : List α) (x : α) (W : World), w.heap.size ≤ l → l < H → H ≤ W.heap.size → (∃ r, W.heap[l]? = some (.loop r)) → I H pre W → T pre x → body.wpIn (Fence.wide.inRound l) 9 P (bodyEnd w.heap.size n₀ H (I H) (Ix H) (pre ++ [x]) W) (A x) W)
    (hdone : ∀ (D H : Nat) (xs : List α) (W : World), w.heap.size ≤ D → w.heap.size ≤ H → S xs → I H xs W → W.heap[D]? = some (.deferred (some [])) → Q .normal { a with defers := { target := .collected D, args := #[] } :: a.defers } W)
    (hstop : ∀ (D H : Nat) (c : Code) (pre : List α) (W : World), w.heap.size ≤ D → w.heap.size ≤ H → Sp pre → Ix H c pre W → W.heap[D]? = some (.deferred (some [])) → c.wp P Q { a with defers := { target := .collected D, args := #[] } :: a.defers } W) :
    (Code.rangeFunc g ps assign body).wp P Q a w := 
  wp_range hg eg hseq hb0 hn₀ hps I Ix hI hIx h0 (fun _ x a' _ => a' = A x) (fun _ _ _ _ _ _ _ hs _ _ => hs)
    (fun l H _ x W K _ _ hi hK => hassign l x W K (hK _ _ (Keeps.refl _ _ _ _) hi rfl))
    (fun l H pre x a' W h1 h2 h3 h4 h5 h6 h7 => by subst h6; exact hbody l H pre x W h1 h2 h3 h4 h5 h7) hdone hstop

/-- **A range over a function in a round of another one.** -/
theorem wpIn_range_in {α : Type} {g : Operand} {ps : Array Tmp} {assign body : Code} {Q : Exit → Act → World → Prop} {a : Act} {w : World}
    {l₀ : Nat} {r₀ : Loop} (hr₀ : w.heap[l₀]? = some (.loop r₀))
    {gf : Nat} {lb : Array Value} (hg : a.eval g = .func (.func gf) #[] lb) (eg : ∀ args w, (callFunc gf args).run P w = .ok (.enter gf args) w)
    {encs : α → Array Value} {n₀ : Nat} {S Sp : List α → Prop} {T : List α → α → Prop} {w0 : World} (hseq : Iter P gf lb encs n₀ S Sp T w0)
    (hb0 : Below w0.heap.size w0 w) (hn₀ : n₀ ≤ w.heap.size) (hps : ∀ x, (encs x).size = ps.size)
    (I : Nat → List α → World → Prop) (Ix : Nat → Code → List α → World → Prop) (hI : ∀ H, OwnFrom w.heap.size (I H)) (hIx : ∀ H c, OwnFrom w.heap.size (Ix H c)) (h0 : ∀ H, w.heap.size ≤ H → I H [] w) (Ax : Nat → α → Act → World → Prop) (hAx : ∀ H x a', OwnFrom w.heap.size (fun (_ : Unit) W => Ax H x a' W))
    (hassign : ∀ (l H : Nat) (pre : List α) (x : α) (W : World) (K : Act → World → Prop), w.heap.size ≤ H → H ≤ W.heap.size → I H pre W → (∀ a' W', Keeps w.heap.size n₀ H W W' → I H pre W' → Ax H x a' W' → K a' W') →
      assign.wpIn (Fence.wide.inRound l) 9 P (Exit.then K (fun _ _ _ => False)) { tmps := (ps.zip (encs x)).foldl (fun t (p, v) => t.setIfInBounds p v) a.tmps, defers := [] } W)
    (hbody : ∀ (l H : Nat) (pre : List α) (x : α) (a' : Act) (W : World), w.heap.size ≤ l → l < H → H ≤ W.heap.size → (∃ r, W.heap[l]? = some (.loop r)) → I H pre W → Ax H x a' W → T pre x → body.wpIn (Fence.wide.inRound l) 9 P (bodyEnd w.heap.size n₀ H (I H) (Ix H) (pre ++ [x]) W) a' W)
    (hdone : ∀ (H : Nat) (xs : List α) (W : World), w.heap.size ≤ H → S xs → I H xs W → Q .normal a W)
    (hstop : ∀ (H : Nat) (c : Code) (pre : List α) (W : World), w.heap.size ≤ H → Sp pre → Ix H c pre W → c.wpIn (Fence.wide.inRound l₀) 9 P Q a W) :
    (Code.rangeFunc g ps assign body).wpIn (Fence.wide.inRound l₀) 9 P Q a w := by
  refine wpIn_rangeFunc fun fn _ => ?_
  obtain ⟨r, hr⟩ : ∃ r : Loop, r = { state := .ready, pending := none, fn, tmps := a.tmps, params := ps, assign, body, defers := r₀.defers } := ⟨_, rfl⟩
  obtain ⟨W1, hW1⟩ : ∃ W1, w.alloc (.loop (recAt r .ready none)) = W1 := ⟨_, rfl⟩
  have hsz1 : W1.heap.size = w.heap.size + 1 := by rw [← hW1]; simp
  have hL1 : W1.heap[w.heap.size]? = some (.loop (recAt r .ready none)) := by rw [← hW1]; exact World.alloc_heap_new w _
  have hI1 : ∀ H, W1.heap.size ≤ H → I H [] W1 := fun H hH => by rw [← hW1]; exact (hI H).alloc _ (h0 H (by omega))
  have hb1 : Below w0.heap.size w0 W1 := by
    rw [← hW1]; exact hb0.trans (((Below.refl _ w).alloc (Nat.le_refl _) _).mono hb0.size)
  refine ⟨w.heap.size, [], W1, { target := .fn (.func gf) lb, args := #[.func (.yield w.heap.size) #[] #[]] }, W1, gf,
    #[.func (.yield w.heap.size) #[] #[]] ++ lb, W1, ?_, ?_, ?_, ?_, fun _ => by omega, ?_⟩
  · rw [← hW1, hr]; exact run_enterLoop_inner hr₀ _ _ _ _ _
  · simp only [resolve, hg]
    simp [go_sem]
  · intro f' _; trivial
  · simp [invoke, go_sem, eg]
  · have hc := (hseq w.heap.size
      (fun H pre W => I H pre W ∧ W.heap[w.heap.size]? = some (.loop (recAt r .ready none)))
      (fun H pre W => ∃ c, Ix H c pre W ∧ W.heap[w.heap.size]? = some (.loop (recAt r .done (some c))))
      W1 hb1
      (by
        intro H s A B row hs hg' hr'
        exact ⟨hI H s A B row hs.1 hg' (fun q e => ⟨by have := (hr' q e).1; omega, (hr' q e).2⟩), grown_far hg' (fun q e => (hr' q e).1) hs.2 (by omega)⟩)
      (by
        intro H s A B row hs hg' hr'
        obtain ⟨c, hc, h1⟩ := hs
        exact ⟨c, hIx H c s A B row hc hg' (fun q e => ⟨by have := (hr' q e).1; omega, (hr' q e).2⟩), grown_far hg' (fun q e => (hr' q e).1) h1 (by omega)⟩)
      (by
        rintro H pre x W hH hWs ⟨hi, hl⟩ hlen
        have hps' : (encs x).size = r.params.size := by rw [hr]; exact hps x
        have := round_yields (P := P) (l := w.heap.size) (B := w.heap.size) (n₀ := n₀) (H := H) (r := r) (I := I H) (Ix := Ix H) (args := encs x) (pre := pre) (x := x) (W := W) (A := Ax H x) (hI H) (hIx H) (hAx H x) (Nat.le_refl _) hn₀ (by omega) hWs hl hi hps'
          (by rw [hr]; exact fun K hK => hassign _ H pre x W K (by omega) hWs hi hK)
          (by
            intro a' W' hs' hl' hi' hA'
            have := hbody w.heap.size H pre x a' W' (Nat.le_refl _) (by omega) hs' ⟨_, hl'⟩ hi' hA' hlen
            rw [hr]; exact this)
        obtain ⟨fn', tm, asg, bo, h1, h2⟩ := this
        refine ⟨fn', tm, asg, bo, h1, fun m => (h2 m).mono ?_⟩
        rintro e W' (⟨rfl, ⟨hi', hl', ho⟩, hkf⟩ | ⟨rfl, ⟨c, hc, hl', ho⟩, hkf⟩)
        · exact .inl ⟨rfl, ⟨hi', hl'⟩, by rw [hsz1]; exact hkf⟩
        · exact .inr ⟨rfl, ⟨c, hc, hl'⟩, by rw [hsz1]; exact hkf⟩)
      (fun H hH => ⟨hI1 H hH, hL1⟩))
    refine (callsIn_wide (n := 9 - 1)).2 (hc.mono ?_)
    rintro e W2 ⟨⟨v, rfl⟩, (⟨H, xs, hH, hS, hi, hl⟩ | ⟨H, pre, hH, hSp, c, hi, hl⟩)⟩
    · exact ⟨none, _, run_endLoop (r := recAt r _ _) hl (by simp [recAt]), hdone H xs _ (by omega) hS ((hI H).putObj _ hi (by omega) hl rfl)⟩
    · exact ⟨some c, _, run_endLoop (r := recAt r _ _) hl (by simp [recAt]), hstop H c pre _ (by omega) hSp ((hIx H c).putObj _ hi (by omega) hl rfl)⟩
end
end Go.Proofs.YtibpagmpdgflmaaGreatDoor

namespace Go.Proofs.YtibpagmpdgflmaaGreatDoor
open Go.RowKit

section
variable {P : Program}
/-- An iterator: what comes of its value, called in any later world with any loop's yield. H: where its own first blocks end. -/
def IterQ {α : Type} (P : Program) (g : Nat) (lb : Array Value) (encs : α → Array Value) (n₀ : Nat) (Qc : World → Prop) (S Sp : List α → Prop) (T : List α → α → Prop) (w₀ : World) : Prop :=
  ∀ (l : Nat) (J Jx : Nat → List α → World → Prop) (W : World), Below w₀.heap.size w₀ W → (∀ H, OwnFrom W.heap.size (J H)) → (∀ H, OwnFrom W.heap.size (Jx H)) →
    (∀ H pre W1, J H pre W1 → Qc W1) →
    (∀ H pre x W1, W.heap.size ≤ H → H ≤ W1.heap.size → J H pre W1 → T pre x → Yields P l (encs x) W1 fun e W' =>
      (e = .returned (.bool true) ∧ J H (pre ++ [x]) W' ∧ Keeps W.heap.size n₀ H W1 W') ∨ (e = .returned (.bool false) ∧ Jx H (pre ++ [x]) W' ∧ Keeps W.heap.size n₀ H W1 W')) →
    (∀ H, W.heap.size ≤ H → J H [] W) →
    Calls P g (#[.func (.yield l) #[] #[]] ++ lb) W fun e W' => (∃ v, e = .returned v) ∧ ((∃ H xs, W.heap.size ≤ H ∧ S xs ∧ J H xs W') ∨ (∃ H pre, W.heap.size ≤ H ∧ Sp pre ∧ Jx H pre W'))

/-- **A range over a function, in the plain walk.** -/
theorem wp_rangeQ {α : Type} {g : Operand} {ps : Array Tmp} {assign body : Code} {Q : Exit → Act → World → Prop} {a : Act} {w : World}
    {gf : Nat} {lb : Array Value} (hg : a.eval g = .func (.func gf) #[] lb) (eg : ∀ args w, (callFunc gf args).run P w = .ok (.enter gf args) w)
    {encs : α → Array Value} {n₀ : Nat} {Qc : World → Prop} {S Sp : List α → Prop} {T : List α → α → Prop} {w0 : World} (hseq : IterQ P gf lb encs n₀ Qc S Sp T w0)
    (hb0 : Below w0.heap.size w0 w) (hn₀ : n₀ ≤ w.heap.size) (hps : ∀ x, (encs x).size = ps.size)
    (I : Nat → List α → World → Prop) (Ix : Nat → Code → List α → World → Prop) (hI : ∀ H, OwnFrom w.heap.size (I H)) (hIx : ∀ H c, OwnFrom w.heap.size (Ix H c)) (hQc : ∀ H pre W, I H pre W → Qc W) (h0 : ∀ H, w.heap.size ≤ H → I H [] w) (Ax : Nat → α → Act → World → Prop) (hAx : ∀ H x a', OwnFrom w.heap.size (fun (_ : Unit) W => Ax H x a' W))
    (hassign : ∀ (l H : Nat) (pre : List α) (x : α) (W : World) (K : Act → World → Prop), w.heap.size ≤ H → H ≤ W.heap.size → I H pre W → (∀ a' W', Keeps w.heap.size n₀ H W W' → I H pre W' → Ax H x a' W' → K a' W') →
      assign.wpIn (Fence.wide.inRound l) 9 P (Exit.then K (fun _ _ _ => False)) { tmps := (ps.zip (encs x)).foldl (fun t (p, v) => t.setIfInBounds p v) a.tmps, defers := [] } W)
    (hbody : ∀ (l H : Nat) (pre : List α) (x : α) (a' : Act) (W : World), w.heap.size ≤ l → l < H → H ≤ W.heap.size → (∃ r, W.heap[l]? = some (.loop r)) → I H pre W → Ax H x a' W → T pre x → body.wpIn (Fence.wide.inRound l) 9 P (bodyEnd w.heap.size n₀ H (I H) (Ix H) (pre ++ [x]) W) a' W)
    (hdone : ∀ (D H : Nat) (xs : List α) (W : World), w.heap.size ≤ D → w.heap.size ≤ H → S xs → I H xs W → W.heap[D]? = some (.deferred (some [])) → Q .normal { a with defers := { target := .collected D, args := #[] } :: a.defers } W)
    (hstop : ∀ (D H : Nat) (c : Code) (pre : List α) (W : World), w.heap.size ≤ D → w.heap.size ≤ H → Sp pre → Ix H c pre W → W.heap[D]? = some (.deferred (some [])) → c.wp P Q { a with defers := { target := .collected D, args := #[] } :: a.defers } W) :
    (Code.rangeFunc g ps assign body).wp P Q a w := by
  refine (wpIn_wide (n := 9)).1 (wpIn_rangeFunc fun fn _ => ?_)
  obtain ⟨r, hr⟩ : ∃ r : Loop, r = { state := .ready, pending := none, fn, tmps := a.tmps, params := ps, assign, body, defers := w.heap.size } := ⟨_, rfl⟩
  obtain ⟨W1, hW1⟩ : ∃ W1, (w.alloc (.deferred (some []))).alloc (.loop (recAt r .ready none)) = W1 := ⟨_, rfl⟩
  have hsz1 : W1.heap.size = w.heap.size + 2 := by rw [← hW1]; simp
  have hL1 : W1.heap[w.heap.size + 1]? = some (.loop (recAt r .ready none)) := by
    rw [← hW1]; have := World.alloc_heap_new (w.alloc (.deferred (some []))) (.loop (recAt r .ready none)); rwa [World.size_alloc] at this
  have hK1 : W1.heap[w.heap.size]? = some (.deferred (some [])) := by
    rw [← hW1]; exact (Below.heap_alloc _ _ _ (by simp)).trans (World.alloc_heap_new w _)
  have hI1 : ∀ H, W1.heap.size ≤ H → I H [] W1 := fun H hH => by rw [← hW1]; exact (hI H).alloc _ ((hI H).alloc _ (h0 H (by omega)))
  have hb1 : Below w0.heap.size w0 W1 := by
    rw [← hW1]; exact hb0.trans ((((Below.refl _ w).alloc (Nat.le_refl _) _).alloc (by simp) _).mono hb0.size)
  refine ⟨w.heap.size + 1, [{ target := .collected w.heap.size, args := #[] }], W1, { target := .fn (.func gf) lb, args := #[.func (.yield (w.heap.size + 1)) #[] #[]] }, W1, gf,
    #[.func (.yield (w.heap.size + 1)) #[] #[]] ++ lb, W1, ?_, ?_, ?_, ?_, fun _ => by omega, ?_⟩
  · rw [← hW1, hr]; exact run_enterLoop_outer _ _ _ _ _
  · simp only [resolve, hg]
    simp [go_sem]
  · intro f' _; trivial
  · simp [invoke, go_sem, eg]
  · refine (callsIn_wide (n := 9 - 1)).2 ((hseq (w.heap.size + 1)
      (fun H pre W => I H pre W ∧ W.heap[w.heap.size + 1]? = some (.loop (recAt r .ready none)) ∧ W.heap[w.heap.size]? = some (.deferred (some [])))
      (fun H pre W => ∃ c, Ix H c pre W ∧ W.heap[w.heap.size + 1]? = some (.loop (recAt r .done (some c))) ∧ W.heap[w.heap.size]? = some (.deferred (some [])))
      W1 hb1 ?_ ?_ (fun H pre W1 h => hQc H pre W1 h.1) ?_ (fun H hH => ⟨hI1 H hH, hL1, hK1⟩)).mono ?_)
    · intro H s A B row hs hg' hr'
      exact ⟨hI H s A B row hs.1 hg' (fun q e => ⟨by have := (hr' q e).1; omega, (hr' q e).2⟩), grown_far hg' (fun q e => (hr' q e).1) hs.2.1 (by omega), grown_far hg' (fun q e => (hr' q e).1) hs.2.2 (by omega)⟩
    · intro H s A B row hs hg' hr'
      obtain ⟨c, hc, h1, h2⟩ := hs
      exact ⟨c, hIx H c s A B row hc hg' (fun q e => ⟨by have := (hr' q e).1; omega, (hr' q e).2⟩), grown_far hg' (fun q e => (hr' q e).1) h1 (by omega), grown_far hg' (fun q e => (hr' q e).1) h2 (by omega)⟩
    · rintro H pre x W hH hWs ⟨hi, hl, hk⟩ hlen
      have hps' : (encs x).size = r.params.size := by rw [hr]; exact hps x
      have := round_yields (P := P) (l := w.heap.size + 1) (B := w.heap.size) (n₀ := n₀) (H := H) (r := r) (I := I H) (Ix := Ix H) (args := encs x) (pre := pre) (x := x) (W := W) (A := Ax H x) (hI H) (hIx H) (hAx H x) (by omega) (by omega) (by omega) hWs hl hi hps'
        (by rw [hr]; exact fun K hK => hassign _ H pre x W K (by omega) hWs hi hK)
        (by
          intro a' W' hs' hl' hi' hA'
          have := hbody (w.heap.size + 1) H pre x a' W' (by omega) (by omega) hs' ⟨_, hl'⟩ hi' hA' hlen
          rw [hr]; exact this)
      obtain ⟨fn', tm, asg, bo, h1, h2⟩ := this
      refine ⟨fn', tm, asg, bo, h1, fun m => (h2 m).mono ?_⟩
      rintro e W' (⟨rfl, ⟨hi', hl', ho⟩, hkf⟩ | ⟨rfl, ⟨c, hc, hl', ho⟩, hkf⟩)
      · exact .inl ⟨rfl, ⟨hi', hl', (ho _ (Nat.le_refl _) (by omega) (by omega)).trans hk⟩, by rw [hsz1]; exact hkf⟩
      · exact .inr ⟨rfl, ⟨c, hc, hl', (ho _ (Nat.le_refl _) (by omega) (by omega)).trans hk⟩, by rw [hsz1]; exact hkf⟩
    · rintro e W2 ⟨⟨v, rfl⟩, (⟨H, xs, hH, hS, hi, hl, hk⟩ | ⟨H, pre, hH, hSp, c, hi, hl, hk⟩)⟩
      · exact ⟨none, _, run_endLoop (r := recAt r _ _) hl (by simp [recAt]), hdone _ H xs _ (Nat.le_refl _) (by omega) hS ((hI H).putObj _ hi (by omega) hl rfl) ((World.putObj_heap_other (by omega)).trans hk)⟩
      · exact ⟨some c, _, run_endLoop (r := recAt r _ _) hl (by simp [recAt]), wpIn_wide.2 (hstop _ H c pre _ (Nat.le_refl _) (by omega) hSp ((hIx H c).putObj _ hi (by omega) hl rfl) ((World.putObj_heap_other (by omega)).trans hk))⟩

/-- The same, where the loop's variables lie in no box. -/
theorem wp_rangeQ_fix {α : Type} {g : Operand} {ps : Array Tmp} {assign body : Code} {Q : Exit → Act → World → Prop} {a : Act} {w : World}
    {gf : Nat} {lb : Array Value} (hg : a.eval g = .func (.func gf) #[] lb) (eg : ∀ args w, (callFunc gf args).run P w = .ok (.enter gf args) w)
    {encs : α → Array Value} {n₀ : Nat} {Qc : World → Prop} {S Sp : List α → Prop} {T : List α → α → Prop} {w0 : World} (hseq : IterQ P gf lb encs n₀ Qc S Sp T w0)
    (hb0 : Below w0.heap.size w0 w) (hn₀ : n₀ ≤ w.heap.size) (hps : ∀ x, (encs x).size = ps.size)
    (I : Nat → List α → World → Prop) (Ix : Nat → Code → List α → World → Prop) (hI : ∀ H, OwnFrom w.heap.size (I H)) (hIx : ∀ H c, OwnFrom w.heap.size (Ix H c)) (hQc : ∀ H pre W, I H pre W → Qc W) (h0 : ∀ H, w.heap.size ≤ H → I H [] w) (A : α → Act)
    (hassign : ∀ (l : Nat) (x : α) (W : World) (K : Act → World → Prop), K (A x) W →
      assign.wpIn (Fence.wide.inRound l) 9 P (Exit.then K (fun _ _ _ => False)) { tmps := (ps.zip (encs x)).foldl (fun t (p, v) => t.setIfInBounds p v) a.tmps, defers := [] } W)
    (hbody : ∀ (l H : Nat) (pre : List α) (x : α) (W : World), w.heap.size ≤ l → l < H → H ≤ W.heap.size → (∃ r, W.heap[l]? = some (.loop r)) → I H pre W → T pre x → body.wpIn (Fence.wide.inRound l) 9 P (bodyEnd w.heap.size n₀ H (I H) (Ix H) (pre ++ [x]) W) (A x) W)
    (hdone : ∀ (D H : Nat) (xs : List α) (W : World), w.heap.size ≤ D → w.heap.size ≤ H → S xs → I H xs W → W.heap[D]? = some (.deferred (some [])) → Q .normal { a with defers := { target := .collected D, args := #[] } :: a.defers } W)
    (hstop : ∀ (D H : Nat) (c : Code) (pre : List α) (W : World), w.heap.size ≤ D → w.heap.size ≤ H → Sp pre → Ix H c pre W → W.heap[D]? = some (.deferred (some [])) → c.wp P Q { a with defers := { target := .collected D, args := #[] } :: a.defers } W) :
    (Code.rangeFunc g ps assign body).wp P Q a w := 
  wp_rangeQ hg eg hseq hb0 hn₀ hps I Ix hI hIx hQc h0 (fun _ x a' _ => a' = A x) (fun _ _ _ _ _ _ _ hs _ _ => hs)
    (fun l H _ x W K _ _ hi hK => hassign l x W K (hK _ _ (Keeps.refl _ _ _ _) hi rfl))
    (fun l H pre x a' W h1 h2 h3 h4 h5 h6 h7 => by subst h6; exact hbody l H pre x W h1 h2 h3 h4 h5 h7) hdone hstop

/-- **A range over a function in a round of another one.** -/
theorem wpIn_rangeQ_in {α : Type} {g : Operand} {ps : Array Tmp} {assign body : Code} {Q : Exit → Act → World → Prop} {a : Act} {w : World}
    {l₀ : Nat} {r₀ : Loop} (hr₀ : w.heap[l₀]? = some (.loop r₀))
    {gf : Nat} {lb : Array Value} (hg : a.eval g = .func (.func gf) #[] lb) (eg : ∀ args w, (callFunc gf args).run P w = .ok (.enter gf args) w)
    {encs : α → Array Value} {n₀ : Nat} {Qc : World → Prop} {S Sp : List α → Prop} {T : List α → α → Prop} {w0 : World} (hseq : IterQ P gf lb encs n₀ Qc S Sp T w0)
    (hb0 : Below w0.heap.size w0 w) (hn₀ : n₀ ≤ w.heap.size) (hps : ∀ x, (encs x).size = ps.size)
    (I : Nat → List α → World → Prop) (Ix : Nat → Code → List α → World → Prop) (hI : ∀ H, OwnFrom w.heap.size (I H)) (hIx : ∀ H c, OwnFrom w.heap.size (Ix H c)) (hQc : ∀ H pre W, I H pre W → Qc W) (h0 : ∀ H, w.heap.size ≤ H → I H [] w) (Ax : Nat → α → Act → World → Prop) (hAx : ∀ H x a', OwnFrom w.heap.size (fun (_ : Unit) W => Ax H x a' W))
    (hassign : ∀ (l H : Nat) (pre : List α) (x : α) (W : World) (K : Act → World → Prop), w.heap.size ≤ H → H ≤ W.heap.size → I H pre W → (∀ a' W', Keeps w.heap.size n₀ H W W' → I H pre W' → Ax H x a' W' → K a' W') →
      assign.wpIn (Fence.wide.inRound l) 9 P (Exit.then K (fun _ _ _ => False)) { tmps := (ps.zip (encs x)).foldl (fun t (p, v) => t.setIfInBounds p v) a.tmps, defers := [] } W)
    (hbody : ∀ (l H : Nat) (pre : List α) (x : α) (a' : Act) (W : World), w.heap.size ≤ l → l < H → H ≤ W.heap.size → (∃ r, W.heap[l]? = some (.loop r)) → I H pre W → Ax H x a' W → T pre x → body.wpIn (Fence.wide.inRound l) 9 P (bodyEnd w.heap.size n₀ H (I H) (Ix H) (pre ++ [x]) W) a' W)
    (hdone : ∀ (H : Nat) (xs : List α) (W : World), w.heap.size ≤ H → S xs → I H xs W → Q .normal a W)
    (hstop : ∀ (H : Nat) (c : Code) (pre : List α) (W : World), w.heap.size ≤ H → Sp pre → Ix H c pre W → c.wpIn (Fence.wide.inRound l₀) 9 P Q a W) :
    (Code.rangeFunc g ps assign body).wpIn (Fence.wide.inRound l₀) 9 P Q a w := by
  refine wpIn_rangeFunc fun fn _ => ?_
  obtain ⟨r, hr⟩ : ∃ r : Loop, r = { state := .ready, pending := none, fn, tmps := a.tmps, params := ps, assign, body, defers := r₀.defers } := ⟨_, rfl⟩
  obtain ⟨W1, hW1⟩ : ∃ W1, w.alloc (.loop (recAt r .ready none)) = W1 := ⟨_, rfl⟩
  have hsz1 : W1.heap.size = w.heap.size + 1 := by rw [← hW1]; simp
  have hL1 : W1.heap[w.heap.size]? = some (.loop (recAt r .ready none)) := by rw [← hW1]; exact World.alloc_heap_new w _
  have hI1 : ∀ H, W1.heap.size ≤ H → I H [] W1 := fun H hH => by rw [← hW1]; exact (hI H).alloc _ (h0 H (by omega))
  have hb1 : Below w0.heap.size w0 W1 := by
    rw [← hW1]; exact hb0.trans (((Below.refl _ w).alloc (Nat.le_refl _) _).mono hb0.size)
  refine ⟨w.heap.size, [], W1, { target := .fn (.func gf) lb, args := #[.func (.yield w.heap.size) #[] #[]] }, W1, gf,
    #[.func (.yield w.heap.size) #[] #[]] ++ lb, W1, ?_, ?_, ?_, ?_, fun _ => by omega, ?_⟩
  · rw [← hW1, hr]; exact run_enterLoop_inner hr₀ _ _ _ _ _
  · simp only [resolve, hg]
    simp [go_sem]
  · intro f' _; trivial
  · simp [invoke, go_sem, eg]
  · have hc := (hseq w.heap.size
      (fun H pre W => I H pre W ∧ W.heap[w.heap.size]? = some (.loop (recAt r .ready none)))
      (fun H pre W => ∃ c, Ix H c pre W ∧ W.heap[w.heap.size]? = some (.loop (recAt r .done (some c))))
      W1 hb1
      (by
        intro H s A B row hs hg' hr'
        exact ⟨hI H s A B row hs.1 hg' (fun q e => ⟨by have := (hr' q e).1; omega, (hr' q e).2⟩), grown_far hg' (fun q e => (hr' q e).1) hs.2 (by omega)⟩)
      (by
        intro H s A B row hs hg' hr'
        obtain ⟨c, hc, h1⟩ := hs
        exact ⟨c, hIx H c s A B row hc hg' (fun q e => ⟨by have := (hr' q e).1; omega, (hr' q e).2⟩), grown_far hg' (fun q e => (hr' q e).1) h1 (by omega)⟩)
      (fun H pre W1 h => hQc H pre W1 h.1)
      (by
        rintro H pre x W hH hWs ⟨hi, hl⟩ hlen
        have hps' : (encs x).size = r.params.size := by rw [hr]; exact hps x
        have := round_yields (P := P) (l := w.heap.size) (B := w.heap.size) (n₀ := n₀) (H := H) (r := r) (I := I H) (Ix := Ix H) (args := encs x) (pre := pre) (x := x) (W := W) (A := Ax H x) (hI H) (hIx H) (hAx H x) (Nat.le_refl _) hn₀ (by omega) hWs hl hi hps'
          (by rw [hr]; exact fun K hK => hassign _ H pre x W K (by omega) hWs hi hK)
          (by
            intro a' W' hs' hl' hi' hA'
            have := hbody w.heap.size H pre x a' W' (Nat.le_refl _) (by omega) hs' ⟨_, hl'⟩ hi' hA' hlen
            rw [hr]; exact this)
        obtain ⟨fn', tm, asg, bo, h1, h2⟩ := this
        refine ⟨fn', tm, asg, bo, h1, fun m => (h2 m).mono ?_⟩
        rintro e W' (⟨rfl, ⟨hi', hl', ho⟩, hkf⟩ | ⟨rfl, ⟨c, hc, hl', ho⟩, hkf⟩)
        · exact .inl ⟨rfl, ⟨hi', hl'⟩, by rw [hsz1]; exact hkf⟩
        · exact .inr ⟨rfl, ⟨c, hc, hl'⟩, by rw [hsz1]; exact hkf⟩)
      (fun H hH => ⟨hI1 H hH, hL1⟩))
    refine (callsIn_wide (n := 9 - 1)).2 (hc.mono ?_)
    rintro e W2 ⟨⟨v, rfl⟩, (⟨H, xs, hH, hS, hi, hl⟩ | ⟨H, pre, hH, hSp, c, hi, hl⟩)⟩
    · exact ⟨none, _, run_endLoop (r := recAt r _ _) hl (by simp [recAt]), hdone H xs _ (by omega) hS ((hI H).putObj _ hi (by omega) hl rfl)⟩
    · exact ⟨some c, _, run_endLoop (r := recAt r _ _) hl (by simp [recAt]), hstop H c pre _ (by omega) hSp ((hIx H c).putObj _ hi (by omega) hl rfl)⟩
end
end Go.Proofs.YtibpagmpdgflmaaGreatDoor
