/- A range over a chain, whose rounds may panic. Conditions: none. -/
import Derived.Test.YtdlblbhmeidhbaaGreatDoorZGK
import Derived.Test.YtdlblbhmeidhbaaGreatDoorZG0
namespace Go.Proofs.YtdlblbhmeidhbaaGreatDoor
open Go.RowKit

section
variable {R : Nat} {FA : Option Addr} {nf cf : Nat} {fed ats : List Nat} {W : World} {b B : Nat} {o : Obj}
theorem putObj_cell (W : World) (B b i : Nat) (o : Obj) (hne : b ≠ B) : (W.putObj B o).cell? ⟨b, i, none⟩ = W.cell? ⟨b, i, none⟩ := World.cell?_of_block (w := W) (World.putObj_heap_other hne)
theorem FreeAt.putObj (h : FreeAt R W b) (hne : B ≠ R) : FreeAt R (W.putObj B o) b :=
  ⟨h.1, fun u hu => h.2 u (by rwa [putObj_cell _ _ _ _ _ (Ne.symm hne)] at hu)⟩
theorem RdAt.putObj (h : RdAt R FA nf cf fed ats W) (hf : FreeAt R W B) (hR : R ≤ B) : RdAt R FA nf cf fed ats (W.putObj B o) := by
  obtain ⟨u, hu, ho⟩ := h.atsv
  refine ⟨by simpa [World.putObj] using h.lt, (putObj_cell _ _ _ _ _ (Ne.symm hf.1)).trans h.fedc, h.fedl, fun hn => ?_, h.feda, ⟨u, (putObj_cell _ _ _ _ _ (Ne.symm hf.1)).trans hu, ho.kept (grownBy_putObj' W B o) (.inr (hf.2 u hu))⟩, (World.frozen?_of_block (w := W) (World.putObj_heap_other (Ne.symm hf.1))).trans h.frz⟩
  obtain ⟨b, off, e, hb, hc⟩ := h.fedr hn
  have := h.feda (by rw [List.length_map] at hn; exact hn) b off e
  exact ⟨b, off, e, by simpa [World.putObj] using hb, fun k w hw => (putObj_cell _ _ _ _ _ (by omega)).trans (hc k w hw)⟩
theorem RB.putObj {W0 : World} {n : Nat} (h : RB R n W0 W) (hn : n ≤ B) (hne : B ≠ R) : RB R n W0 (W.putObj B o) :=
  ⟨h.os, h.tape, h.output, by simpa [World.putObj] using h.size, fun k hk hf => ⟨(World.putObj_heap_other (by omega)).trans (h.keep k hk hf).1, (h.keep k hk hf).2.putObj hne⟩⟩
/-- A block that is turned, and turned back. -/
theorem RB.round {W4 Wx W6 : World} {n n' l : Nat} {o1 : Obj} (h1 : RB R n W4 Wx) (hF : FreeAt R W4 l) (hl : W4.heap[l]? = some o) (hlt : l < W6.heap.size) (k : RB R n' (Wx.putObj l o1) W6) (hn : n ≤ n') : RB R n W4 (W6.putObj l o) := by
  refine ⟨k.os.trans h1.os, k.tape.trans h1.tape, k.output.trans h1.output, ?_, fun b hb hf => ?_⟩
  · have := k.size
    have := h1.size
    simp [World.putObj] at *
    omega
  · obtain ⟨e1, f1⟩ := h1.keep b hb hf
    obtain ⟨e2, f2⟩ := k.keep b (by omega) (f1.putObj hF.1)
    refine ⟨?_, f2.putObj hF.1⟩
    by_cases hbl : b = l
    · subst hbl
      rw [World.putObj_heap_same hlt, hl]
    · rw [World.putObj_heap_other hbl, e2, World.putObj_heap_other hbl, e1]
end
theorem yields_of_at {P : Program} {l : Nat} {args : Array Value} {W : World} {R : Ending → World → Prop} {m : Nat} (h : YieldAt Fence.wide m P l args W R) : Yields P l args W R := by
  obtain ⟨fn, tmps, assign, body, h1, h2⟩ := h
  exact ⟨fn, tmps, assign, body, h1, fun m => ⟨h2.1, fun c cs _ => h2.2 c cs (room_wide _)⟩⟩
variable {R : Nat} {FA : Option Addr} {nf cf : Nat} {fed ats : List Nat}
/-- How a round over a chain ends. -/
def RoundEnd (R : Nat) (FA : Option Addr) (nf cf : Nat) (fed : List Nat) (B9 : Nat) (W : World) (r : Res (Option Nat)) (e : Exit) (a : Act) (W' : World) : Prop :=
  match r with
  | .val none l => e = .normal ∧ RdAt R FA nf cf fed l W' ∧ RB R W.heap.size W W'
  | .val (some v) l => e = .exit 0 ∧ ∃ W2, RdAt R FA nf cf fed l W2 ∧ RB R W.heap.size W W2 ∧ W' = W2.setCell ⟨B9, 0, none⟩ (.int .i64 v)
  | .stop o l => e = .panic [outV o] ∧ a.defers = [] ∧ RdAt R FA nf cf fed l W' ∧ RB R W.heap.size W W'
set_option maxHeartbeats 1000000 in
theorem wpB_chain {f : FuncId} {fn : Func} (hf : Tryz.prog.funcs[f]? = some fn) {g : Operand} {p : Tmp} {assign body : Code} {Q : Exit → Act → World → Prop} {a : Act} {W : World} {Rb Hb head B9 : Nat} {c9 : Value} (s : List UInt8)
    (hg : a.eval g = .func (.func 69) #[] #[.pointer (some ⟨Rb, 0, none⟩), .pointer (some ⟨Hb, 0, none⟩)])
    (hhead : head < 9223372036854775808) (hl : ats.length ≤ 100000) (hnf : nf ≤ 20000) (hx64 : ∀ x ∈ fed, x < 18446744073709551616)
    (hrd : RdAt R FA nf cf fed ats W) (hc : ChainAt R Rb Hb head W) (hF1 : FreeAt R W Rb) (hF2 : FreeAt R W Hb) (hF9 : FreeAt R W B9) (h9 : W.cell? ⟨B9, 0, none⟩ = some c9) (hR9 : R ≤ B9)
    (A : Nat → Act) (hassign : ∀ (l line : Nat) (W : World) (K : Act → World → Prop), K (A line) W → assign.wpIn (Fence.wide.inRound l) 7 Tryz.prog (Exit.then K (fun _ _ _ => False)) { tmps := a.tmps.setIfInBounds p (.int .i64 line), defers := [] } W)
    (hbody : ∀ (l line : Nat) (l1 : List Nat) (Wx : World), 1 ≤ line → line < 1024 → l1.length ≤ nf → RdAt R FA nf cf fed l1 Wx → RB R W.heap.size W Wx → body.wpIn (Fence.wide.inRound l) 7 Tryz.prog (RoundEnd R FA nf cf fed B9 Wx (roundQ fed s line l1)) (A line) Wx)
    (hnone : ∀ l' W', Hid (headQ fed s head ats = .val none l') → RdAt R FA nf cf fed l' W' → RB R W.heap.size W W' → W'.heap[W.heap.size]? = some (.deferred (some [])) → FreeAt R W' W.heap.size → Q .normal { a with defers := { target := .collected W.heap.size, args := #[] } :: a.defers } W')
    (hsome : ∀ v l' W', Hid (headQ fed s head ats = .val (some v) l') → RdAt R FA nf cf fed l' W' → RB R B9 W W' → W'.cell? ⟨B9, 0, none⟩ = some (.int .i64 (v : Nat)) → W'.heap[W.heap.size]? = some (.deferred (some [])) → FreeAt R W' W.heap.size → Q (.exit 0) { a with defers := { target := .collected W.heap.size, args := #[] } :: a.defers } W')
    (hstop : ∀ o l' W', Hid (headQ fed s head ats = .stop o l') → RdAt R FA nf cf fed l' W' → RB R W.heap.size W W' → W'.heap[W.heap.size]? = some (.deferred (some [])) → FreeAt R W' W.heap.size → Q (.panic [outV o]) { a with defers := { target := .collected W.heap.size, args := #[] } :: a.defers } W') :
    WpB f Tryz.prog (Code.rangeFunc g #[p] assign body) Q a W := by
  refine wpB_rangeFunc hg (enters_of Tryz.func69 (by kernel_rfl) rfl) ?_
  obtain ⟨rec, hrec⟩ : ∃ rec : LoopState → Option Code → Loop, (fun st pe => recOf f a.tmps #[p] assign body W.heap.size st pe) = rec := ⟨_, rfl⟩
  have hr0 : recOf f a.tmps #[p] assign body W.heap.size .ready none = rec .ready none := by rw [← hrec]
  obtain ⟨W4, hW4⟩ : ∃ W4, (W.alloc (.deferred (some []))).alloc (.loop (rec .ready none)) = W4 := ⟨_, rfl⟩
  rw [hr0, hW4]
  have hs4 : W4.heap.size = W.heap.size + 1 + 1 := by rw [← hW4]; simp
  have hb4 : Below W.heap.size W W4 := by rw [← hW4]; exact ((Below.refl _ W).alloc (Nat.le_refl _) _).alloc (by simp) _
  have hL4 : W4.heap[W.heap.size + 1]? = some (.loop (rec .ready none)) := by
    rw [← hW4]; have := World.alloc_heap_new (w := W.alloc (.deferred (some []))) (.loop (rec .ready none)); rwa [World.size_alloc] at this
  have hD4 : W4.heap[W.heap.size]? = some (.deferred (some [])) := by
    rw [← hW4]; exact (Below.heap_alloc _ _ _ (by simp)).trans (World.alloc_heap_new (w := W) _)
  have hrd4 := hrd.below hb4
  have hFl : FreeAt R W4 (W.heap.size + 1) := hrd.free_new hb4 (by omega)
  have hFd : FreeAt R W4 W.heap.size := hrd.free_new hb4 (Nat.le_refl _)
  have hbr : Rb < W.heap.size := World.block_lt_of_cell? W ⟨Rb, 0, none⟩ hc.1
  have hbh : Hb < W.heap.size := World.block_lt_of_cell? W ⟨Hb, 0, none⟩ hc.2
  have hb9 : B9 < W.heap.size := World.block_lt_of_cell? W ⟨B9, 0, none⟩ h9
  have hF14 := freeAt_below hb4 hrd.lt hF1
  have hF24 := freeAt_below hb4 hrd.lt hF2
  have hF94 := freeAt_below hb4 hrd.lt hF9
  have hRB4 : RB R W.heap.size W W4 := RB.of_below hb4 hrd.lt
  have hRl := hrd.lt
  have hpe : ∀ st pe, (rec st pe).pending = pe := fun st pe => by rw [← hrec]; rfl
  have hgl : ∀ W1, RB R (W.heap.size + 1 + 1) W4 W1 → W1.heap[W.heap.size + 1]? = some (.loop (rec .ready none)) := fun W1 h => ((h.keep _ (by omega) hFl).1).trans hL4
  refine callsIn_wide.2 ((chain1_in (R := R) (FA := FA) (nf := nf) (cf := cf) (fed := fed) (ats := ats) (W.heap.size + 1) Rb Hb head s (fun l Wx => RdAt R FA nf cf fed l Wx ∧ RB R (W.heap.size + 1 + 1) W4 Wx)
    (fun v l Wx => RdAt R FA nf cf fed l Wx ∧ RB R B9 W Wx ∧ Wx.cell? ⟨B9, 0, none⟩ = some (.int .i64 (v : Nat)) ∧ Wx.heap[W.heap.size]? = some (.deferred (some [])) ∧ Wx.heap[W.heap.size + 1]? = some (.loop (rec .done (some (.exit 0)))) ∧ FreeAt R Wx (W.heap.size + 1) ∧ FreeAt R Wx W.heap.size)
    (fun l Wx => RdAt R FA nf cf fed l Wx ∧ RB R (W.heap.size + 1) W4 Wx) W4 hhead hl hnf hx64 ?_ ?_ ?_ ?_ ⟨hrd4, RB.refl _ _ _⟩).mono ?_)
  · rintro l Wx ⟨h1, h2⟩
    exact ⟨h1, (h2.cell (by omega) hF14).trans ((hb4.cell (p := ⟨Rb, 0, none⟩) hbr).trans hc.1), (h2.cell (by omega) hF24).trans ((hb4.cell (p := ⟨Hb, 0, none⟩) hbh).trans hc.2)⟩
  · rintro l l' W1 W2 ⟨h1, h2⟩ h3 h4
    exact ⟨h3, h2.trans (h4.mono (by have := h2.size; omega))⟩
  · rintro l W1 ⟨h1, h2⟩
    exact ⟨h1, h2.mono (by omega)⟩
  · rintro line l1 W1 hl1 hl2 hl3 ⟨h1, h2⟩
    have hlp := hgl W1 h2
    have hF1' := (h2.keep _ (by omega) hFl).2
    have hs1 : W.heap.size + 1 + 1 ≤ W1.heap.size := by have := h2.size; omega
    obtain ⟨W5, hW5⟩ : ∃ W5, W1.putObj (W.heap.size + 1) (.loop (rec .busy none)) = W5 := ⟨_, rfl⟩
    have hrd5 : RdAt R FA nf cf fed l1 W5 := by rw [← hW5]; exact h1.putObj hF1' (by omega)
    have hs5 : W5.heap.size = W1.heap.size := by rw [← hW5]; simp [World.putObj]
    have hL5 : W5.heap[W.heap.size + 1]? = some (.loop (rec .busy none)) := by rw [← hW5]; exact World.putObj_heap_same (by omega)
    have hF5 : FreeAt R W5 (W.heap.size + 1) := by rw [← hW5]; exact hF1'.putObj hF1'.1
    have h25 : RB R (W.heap.size + 1) W4 W5 := by rw [← hW5]; exact (h2.mono (by omega)).putObj (Nat.le_refl _) hF1'.1
    have hb := hbody (W.heap.size + 1) line l1 W5 hl1 hl2 hl3 hrd5 (hRB4.trans (h25.mono (by omega)))
    have hkl : ∀ W6, RB R W5.heap.size W5 W6 → W6.heap[W.heap.size + 1]? = some (.loop (rec .busy none)) ∧ FreeAt R W6 (W.heap.size + 1) := fun W6 h6 => by
      have := h6.keep (W.heap.size + 1) (by omega) hF5
      exact ⟨this.1.trans hL5, this.2⟩
    refine yields_of_at ((yieldP (P := Tryz.prog) (f := f) (l := W.heap.size + 1) (D := W.heap.size) (args := #[.int .i64 (line : Nat)]) (ps := #[p]) (assign := assign) (body := body) (tmps := a.tmps) (W := W1) hf rfl (by rw [hr0]; exact hlp)
      (fun W3 => ∃ l', roundQ fed s line l1 = .val none l' ∧ RdAt R FA nf cf fed l' W3 ∧ RB R W5.heap.size W5 W3)
      (fun c W3 => c = .exit 0 ∧ ∃ v l' W2, roundQ fed s line l1 = .val (some v) l' ∧ RdAt R FA nf cf fed l' W2 ∧ RB R W5.heap.size W5 W2 ∧ W3 = W2.setCell ⟨B9, 0, none⟩ (.int .i64 (v : Nat)))
      (fun ch W3 => ∃ o l', roundQ fed s line l1 = .stop o l' ∧ ch = [outV o] ∧ RdAt R FA nf cf fed l' W3 ∧ RB R W5.heap.size W5 W3)
      (A line) (fun K hK => by rw [show (#[p].zip #[Value.int .i64 (line : Nat)]).foldl (fun t (p, v) => t.setIfInBounds p v) a.tmps = a.tmps.setIfInBounds p (.int .i64 line) from by simp]; exact hassign (W.heap.size + 1) line W1 K hK) ?_).mono ?_)
    · rw [show recOf f a.tmps #[p] assign body W.heap.size .busy none = rec .busy none from by rw [← hrec], hW5]
      refine wpIn_mono hb ?_
      intro e a3 W3 hp
      unfold RoundEnd at hp
      cases hr : roundQ fed s line l1 with
      | stop o l' =>
        rw [hr] at hp
        obtain ⟨rfl, hd, h5, h6⟩ := hp
        exact ⟨hd, o, l', rfl, rfl, h5, h6⟩
      | val ov l' =>
        rw [hr] at hp
        cases ov with
        | none =>
          obtain ⟨rfl, h5, h6⟩ := hp
          exact ⟨(hkl W3 h6).1, l', rfl, h5, h6⟩
        | some v =>
          obtain ⟨rfl, W2, h5, h6, rfl⟩ := hp
          exact ⟨(Below.heap_setCell W2 ⟨B9, 0, none⟩ _ _ (by show W.heap.size + 1 ≠ B9; omega)).trans (hkl W2 h6).1, rfl, v, l', W2, rfl, h5, h6, rfl⟩
    · have hrd' : ∀ st pe, recOf f a.tmps #[p] assign body W.heap.size st pe = rec st pe := fun st pe => by rw [← hrec]
      rintro e W' (⟨rfl, W3, ⟨l', hr, h5, h6⟩, h7, rfl⟩ | ⟨rfl, c, W3, ⟨rfl, v, l', W2, hr, h5, h6, rfl⟩, h7, rfl⟩ | ⟨ch, rfl, o, l', hr, rfl, h5, h6⟩)
      · rw [hr, hrd']
        obtain ⟨_, hf6⟩ := hkl W3 h6
        have hs6 := h6.size
        rw [← hW5] at h6
        exact ⟨rfl, h5.putObj hf6 (by omega), h2.round hFl hL4 (by omega) h6 (by simp [World.putObj]; omega)⟩
      · rw [hr, hrd']
        obtain ⟨hl6, hf6⟩ := hkl W2 h6
        have hs6 := h6.size
        obtain ⟨e9, f9⟩ := (hRB4.trans ((h25.mono (by omega)).trans (h6.mono (by omega)))).keep B9 hb9 hF9
        have hd9 : W2.heap[W.heap.size]? = some (.deferred (some [])) := ((h6.keep W.heap.size (by omega) ((h25.keep _ (by omega) hFd).2)).1.trans (h25.keep _ (by omega) hFd).1).trans hD4
        have hfd6 := (h6.keep W.heap.size (by omega) ((h25.keep _ (by omega) hFd).2)).2
        refine ⟨rfl, (h5.set f9).putObj (hf6.set f9.1) (by omega), ?_, ?_, ?_, World.putObj_heap_same (by simp [World.setCell]; omega), (hf6.set f9.1).putObj hf6.1, (hfd6.set f9.1).putObj hf6.1⟩
        · exact (((hRB4.mono (by omega)).trans ((h25.mono (by omega)).trans (h6.mono (by omega)))).set (Nat.le_refl _) f9.1).putObj (by omega) hf6.1
        · rw [putObj_cell _ _ _ _ _ (by omega)]
          exact World.cell?_setCell_same' _ _ _ (by rw [World.cell?_of_block (w := W) e9, h9]; rfl)
        · rw [World.putObj_heap_other (by omega)]
          exact (Below.heap_setCell W2 ⟨B9, 0, none⟩ _ _ (by show W.heap.size ≠ B9; omega)).trans hd9
      · rw [hr]
        exact ⟨rfl, h5, h25.trans (h6.mono (by omega))⟩
  · rintro e W' hp
    unfold CPost at hp
    cases hr : headQ fed s head ats with
    | stop o l' =>
      rw [hr] at hp
      obtain ⟨rfl, h1, h2⟩ := hp
      exact hstop o l' W' hr h1 (hRB4.trans (h2.mono (by omega))) ((h2.keep _ (by omega) hFd).1.trans hD4) (h2.keep _ (by omega) hFd).2
    | val ov l' =>
      rw [hr] at hp
      cases ov with
      | none =>
        obtain ⟨rfl, h1, h2⟩ := hp
        have hlp := hgl W' h2
        have hfp := (h2.keep _ (by omega) hFl).2
        refine ⟨none, _, (run_endLoop hlp (by rw [← hrec]; simp [recOf])).trans (by rw [hpe]), hnone l' _ hr (h1.putObj hfp (by omega)) ((hRB4.trans (h2.mono (by omega))).putObj (by omega) hfp.1) ?_ ((h2.keep _ (by omega) hFd).2.putObj hfp.1)⟩
        exact (World.putObj_heap_other (by omega)).trans ((h2.keep _ (by omega) hFd).1.trans hD4)
      | some v =>
        obtain ⟨rfl, h1, h2, h3, h4, h5, h6, h7⟩ := hp
        refine ⟨some (.exit 0), _, (run_endLoop h5 (by rw [← hrec]; simp [recOf])).trans (by rw [hpe]), ?_⟩
        exact wpB_of_wp (wp_exit (hsome v l' _ hr (h1.putObj h6 (by omega)) (h2.putObj (by omega) h6.1) ((putObj_cell _ _ _ _ _ (by omega)).trans h3) ((World.putObj_heap_other (by omega)).trans h4) (h7.putObj h6.1)))
end Go.Proofs.YtdlblbhmeidhbaaGreatDoor
