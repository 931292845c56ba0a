/- Trees in memory that change: what stays. What is told of a node: errors, clones. Contracts of tree.done, of read at two paths. Contracts of tree's spot, there, fresh, file. Contracts of tree's put, Make. The contract of tree.Make. Conditions: none. -/
import Derived.Test.YtibpagmpdgflmaaGreatDoorZF2
import Derived.Maps.OwnSet
import Derived.Test.YtibpagmpdgflmaaGreatDoorZYW
import Derived.Test.YtibpagmpdgflmaaGreatDoorZC2
namespace Go.Proofs.YtibpagmpdgflmaaGreatDoor
open Go.RowKit Go.Maps Go.WideMaps

/-- W' is W but for blocks of a kind, and what was laid behind. -/
structure Kept (S : Nat → Prop) (W W' : World) : Prop where
  os : W'.os = W.os
  tape : W'.tape = W.tape
  output : W'.output = W.output
  size : W.heap.size ≤ W'.heap.size
  block : ∀ b, b < W.heap.size → ¬ S b → W'.heap[b]? = W.heap[b]?
namespace Kept
variable {S S' : Nat → Prop} {W W1 W2 : World}
theorem refl (S : Nat → Prop) (W : World) : Kept S W W := ⟨rfl, rfl, rfl, Nat.le_refl _, fun _ _ _ => rfl⟩
theorem of_below (h : Below W.heap.size W W1) : Kept S W W1 := ⟨h.os, h.tape, h.output, h.size, fun b hb _ => h.block b hb⟩
theorem trans (h : Kept S W W1) (k : Kept S' W1 W2) (hs : ∀ b, b < W.heap.size → S' b → S b) : Kept S W W2 :=
  ⟨k.os.trans h.os, k.tape.trans h.tape, k.output.trans h.output, Nat.le_trans h.size k.size, fun b hb hS => (k.block b (Nat.lt_of_lt_of_le hb h.size) (fun e => hS (hs b hb e))).trans (h.block b hb hS)⟩
theorem mono (h : Kept S W W1) (hs : ∀ b, b < W.heap.size → S b → S' b) : Kept S' W W1 := ⟨h.os, h.tape, h.output, h.size, fun b hb hS => h.block b hb fun e => hS (hs b hb e)⟩
theorem andBelow (h : Kept S W W1) (k : Below W1.heap.size W1 W2) : Kept S W W2 := h.trans (S' := fun _ => False) (of_below k) fun _ _ h => h.elim
theorem belowAnd (h : Below W.heap.size W W1) (k : Kept S W1 W2) : Kept S W W2 := (of_below (S := S) h).trans k fun _ _ h => h
theorem set (h : Kept S W W1) {p : Addr} (hp : S p.block ∨ W.heap.size ≤ p.block) (v : Value) : Kept S W (W1.setCell p v) :=
  ⟨h.os, h.tape, h.output, by have := h.size; simpa [World.setCell] using this, fun b hb hS => (Below.heap_setCell W1 p v b (by rintro rfl; rcases hp with h | h; exact hS h; omega)).trans (h.block b hb hS)⟩
theorem grown (h : Kept S W W1) {b : Nat} (hg : W1.grownBy W2 (some b)) (hb : S b ∨ W.heap.size ≤ b) : Kept S W W2 :=
  ⟨hg.os.trans h.os, hg.tape.trans h.tape, hg.output.trans h.output, Nat.le_trans h.size hg.size, fun k hk hS => (hg.block k (Nat.lt_of_lt_of_le hk h.size) (by intro e; cases e; rcases hb with h | h; exact hS h; omega)).trans (h.block k hk hS)⟩
theorem alloc (h : Kept S W W1) (o : Obj) : Kept S W (W1.alloc o) := h.andBelow ((Below.refl _ _).alloc (Nat.le_refl _) _)
theorem cell (h : Kept S W W1) {p : Addr} (hp : p.block < W.heap.size) (hS : ¬ S p.block) : W1.cell? p = W.cell? p := World.cell?_of_block (w := W) (h.block _ hp hS)
theorem frozen (h : Kept S W W1) {p : Addr} (hp : p.block < W.heap.size) (hS : ¬ S p.block) : W1.frozen? p = W.frozen? p := World.frozen?_of_block (w := W) (h.block _ hp hS)
theorem row (h : Kept S W W1) {A : Option Addr} {cs : List Value} (hr : RowAt W A cs) (hA : ∀ b off, A = some ⟨b, off, none⟩ → ¬ S b) : RowAt W1 A cs := fun hn => by
  obtain ⟨b, off, e, hb, hc⟩ := hr hn
  exact ⟨b, off, e, Nat.lt_of_lt_of_le hb h.size, fun k u hu => (h.cell (p := ⟨b, off + k, none⟩) hb (hA b off e)).trans (hc k u hu)⟩
theorem cells (h : Kept S W W1) {X n : Nat} {f : Nat → Value} (hc : CellsAt W X n f) (hX : X < W.heap.size) (hS : ¬ S X) : CellsAt W1 X n f :=
  ⟨fun i hi => (h.cell (p := ⟨X, i, none⟩) hX hS).trans (hc.1 i hi), fun i => (h.frozen (p := ⟨X, i, none⟩) hX hS).trans (hc.2 i)⟩
theorem below (h : Kept S W W1) {n : Nat} (hn : n ≤ W.heap.size) (hS : ∀ b, b < n → ¬ S b) : Below n W W1 := ⟨h.os, h.tape, h.output, h.size, fun b hb => h.block b (Nat.lt_of_lt_of_le hb hn) (hS b hb)⟩
end Kept

/-- The blocks of a tree's nodes, and of their names. -/
def inG (g : GrP) (b : Nat) : Prop := (g b).isSome ∨ ∃ n nd D, g n = some nd ∧ nd.kids = some (b, D)
def Inj (g : GrP) : Prop := ∀ n n' nd nd' m D D', g n = some nd → g n' = some nd' → nd.kids = some (m, D) → nd'.kids = some (m, D') → n = n'
def Small (g : GrP) (N : Nat) : Prop := (∀ n nd m D, g n = some nd → nd.kids = some (m, D) → Maps.size D ≤ N) ∧ ∀ n nd, g n = some nd → nd.bytes.length ≤ 448 ∧ nd.links ≤ 200
def updG (g : GrP) (n : Nat) (nd : NodeP) : GrP := fun k => if k = n then some nd else g k
theorem updG_same (g : GrP) (n : Nat) (nd : NodeP) : updG g n nd n = some nd := by unfold updG; rw [if_pos rfl]
theorem updG_other {g : GrP} {n k : Nat} {nd : NodeP} (h : k ≠ n) : updG g n nd k = g k := by unfold updG; rw [if_neg h]
theorem updG_is {g : GrP} {n : Nat} {nd : NodeP} (b : Nat) (h : (g b).isSome) : (updG g n nd b).isSome := by
  unfold updG
  split
  · rfl
  · exact h
theorem own_exact {P : Program} {k : TypeId} {b n : Nat} {D : DataW Value} {W : World} (h : W.ownsMap P k heldV b n D) : W.ownsMap P k heldV b (Maps.size D) D := by
  have hs := h
  obtain ⟨es, clock, hb, F, _, rfl⟩ := h
  refine ⟨es, clock, hb, F, ?_, rfl⟩
  have e1 : es.size = ((es.toList.map (WideElems.rg P k heldV)).foldr DataW.insert []).length := by rw [Go.length_sorted]; simp
  rw [e1]
  exact Nat.le_refl _
theorem own_mapBlock {P : Program} {k : TypeId} {b n : Nat} {D : DataW Value} {W : World} (h : W.ownsMap P k heldV b n D) (i : Nat) : W.cell? ⟨b, i, none⟩ = none := by
  obtain ⟨es, clock, hb, _⟩ := h
  unfold World.cell?
  simp only [hb]
theorem own_ne {P : Program} {k : TypeId} {b n X i : Nat} {c : Value} {D : DataW Value} {W : World} (h : W.ownsMap P k heldV b n D) (hc : W.cell? ⟨X, i, none⟩ = some c) : b ≠ X := by
  rintro rfl
  rw [own_mapBlock h i] at hc
  cases hc
theorem own_block {P : Program} {k : TypeId} {b n : Nat} {D : DataW Value} {W W' : World} (h : W.ownsMap P k heldV b n D) (hb : W'.heap[b]? = W.heap[b]?) : W'.ownsMap P k heldV b n D := by
  obtain ⟨es, clock, hb', r⟩ := h
  exact ⟨es, clock, hb.trans hb', r⟩
theorem NodeAt.cell1 {W : World} {n : Nat} {nd : NodeP} (h : NodeAt W n nd) : ∃ A k c, W.cell? ⟨n, 1, none⟩ = some (.slice A k c) := by
  obtain ⟨A, k, c, h1, _⟩ := h.byt
  exact ⟨A, k, c, h1⟩
theorem row_set {W : World} {X i : Nat} {v c : Value} {A : Option Addr} {bs : List UInt8} (hc : W.cell? ⟨X, i, none⟩ = some c) (hne : ∀ x, c ≠ encB x) (hr : RowAt W A (bs.map encB)) : RowAt (W.setCell ⟨X, i, none⟩ v) A (bs.map encB) := fun hn => by
  obtain ⟨b, off, e, hb, hcs⟩ := hr hn
  refine ⟨b, off, e, by simpa [World.setCell] using hb, fun k u hu => ?_⟩
  rw [World.cell?_setCell_other _ _ _ _ (by
    intro e2
    injection e2 with e3 e4
    have h1 := hcs k u hu
    rw [← e3, ← e4, hc] at h1
    injection h1 with h1
    rw [List.getElem?_map] at hu
    cases hx : bs[k]? with
    | none => rw [hx] at hu; cases hu
    | some x => rw [hx] at hu; injection hu with hu; exact hne x (h1.trans hu.symm))]
  exact hcs k u hu
theorem row_grown {W W' : World} {m n : Nat} {P : Program} {k : TypeId} {D : DataW Value} {A : Option Addr} {cs : List Value} (ho : W.ownsMap P k heldV m n D) (hg : W.grownBy W' (some m)) (hr : RowAt W A cs) : RowAt W' A cs := fun hn => by
  obtain ⟨b, off, e, hb, hcs⟩ := hr hn
  have hne : m ≠ b := own_ne ho (hcs 0 _ (List.getElem?_eq_getElem hn))
  exact ⟨b, off, e, Nat.lt_of_lt_of_le hb hg.size, fun k u hu => (World.cell?_of_block (w := W) (hg.block b hb (fun e => hne (by injection e with e; exact e.symm)))).trans (hcs k u hu)⟩
theorem GAt.lt {W : World} {g : GrP} (h : GAt W g) {b : Nat} (hb : inG g b) : b < W.heap.size := by
  rcases hb with hb | ⟨n, nd, D, h1, h2⟩
  · obtain ⟨nd, hnd⟩ := Option.isSome_iff_exists.1 hb
    exact (h.node b nd hnd).lt
  · exact ((h.node n nd h1).own b D h2).lt
theorem GAt.fresh {W : World} {g : GrP} (h : GAt W g) {n : Nat} (hn : W.heap.size ≤ n) : g n = none := by
  cases hg : g n with
  | none => rfl
  | some nd => exact absurd (h.node n nd hg).lt (by omega)
/-- A cell of a node is given another value: the nodes that are others. -/
theorem NodeAt.set_other {W : World} {n X i : Nat} {nd : NodeP} {c v : Value} (h : NodeAt W n nd) (hne : n ≠ X) (hc : W.cell? ⟨X, i, none⟩ = some c) (hb : ∀ x, c ≠ encB x) : NodeAt (W.setCell ⟨X, i, none⟩ v) n nd := by
  obtain ⟨A, k, cc, h1, h2, h3, h4, h5, h6⟩ := h.byt
  have hq : ∀ j, (W.setCell ⟨X, i, none⟩ v).cell? ⟨n, j, none⟩ = W.cell? ⟨n, j, none⟩ := fun j => World.cell?_setCell_other _ _ _ _ (by intro e; injection e with e; exact hne e.symm)
  exact ⟨by simpa [World.setCell] using h.lt, (hq 0).trans h.kidc, ⟨A, k, cc, (hq 1).trans h1, h2, h3, h4, row_set hc hb h5, h6⟩, (hq 2).trans h.lnk, fun j => (World.frozen?_setCell _ _ _ _).trans (h.frz j), fun m D hm => (h.own m D hm).setCell (own_ne (h.own m D hm) hc) v⟩
theorem GAt.upd {W W' : World} {g : GrP} {n : Nat} {nd nd' : NodeP} (h : GAt W g) (hn : g n = some nd) (hk : nd'.kids = nd.kids) (ho : ∀ n' nd1, n' ≠ n → NodeAt W n' nd1 → NodeAt W' n' nd1) (hs : NodeAt W' n nd') : GAt W' (updG g n nd') := by
  refine ⟨fun k kd hkd => ?_, fun k kd m D s hkd hkk hh => ?_⟩
  · by_cases e : k = n
    · subst e
      rw [updG_same] at hkd
      cases hkd
      exact hs
    · rw [updG_other e] at hkd
      exact ho k kd e (h.node k kd hkd)
  · by_cases e : k = n
    · subst e
      rw [updG_same] at hkd
      cases hkd
      obtain ⟨b, h1, h2⟩ := h.kids k nd m D s hn (hk.symm.trans hkk) hh
      exact ⟨b, updG_is b h1, h2⟩
    · rw [updG_other e] at hkd
      obtain ⟨b, h1, h2⟩ := h.kids k kd m D s hkd hkk hh
      exact ⟨b, updG_is b h1, h2⟩
theorem slice_not (A : Option Addr) (k c : Nat) (x : UInt8) : Value.slice A k c ≠ encB x := by unfold encB; intro h; cases h
theorem i64_not (n : Int) (x : UInt8) : Value.int .i64 n ≠ encB x := by unfold encB; intro h; cases h
theorem GAt.set_bytes {W : World} {g : GrP} {n k c : Nat} {nd : NodeP} {A : Option Addr} {bs : List UInt8} (h : GAt W g) (hn : g n = some nd) (hl : bs.length = k) (hkc : k ≤ c) (hc : c ≤ maxLen) (hr : RowAt W A (bs.map encB)) (hA : 0 < k → ∀ b off, A = some ⟨b, off, none⟩ → b ≠ n) (hP : PlainA A) :
    GAt (W.setCell ⟨n, 1, none⟩ (.slice A k c)) (updG g n { nd with bytes := bs }) := by
  have hN := h.node n nd hn
  obtain ⟨A0, k0, c0, h1, _⟩ := hN.byt
  refine h.upd hn rfl (fun n' nd1 hne hN1 => hN1.set_other hne h1 (slice_not A0 k0 c0)) ?_
  have hq : ∀ j, j ≠ 1 → (W.setCell ⟨n, 1, none⟩ (.slice A k c)).cell? ⟨n, j, none⟩ = W.cell? ⟨n, j, none⟩ := fun j hj => World.cell?_setCell_other _ _ _ _ (by intro e; injection e with _ e; exact hj e.symm)
  exact ⟨by simpa [World.setCell] using hN.lt, (hq 0 (by decide)).trans hN.kidc, ⟨A, k, c, World.cell?_setCell_same' _ _ _ (by rw [h1]; rfl), hl, hkc, hc, row_set h1 (slice_not A0 k0 c0) hr, hA, hP⟩, (hq 2 (by decide)).trans hN.lnk, fun j => (World.frozen?_setCell _ _ _ _).trans (hN.frz j), fun m D hm => (hN.own m D hm).setCell (own_ne (hN.own m D hm) h1) _⟩
theorem GAt.set_links {W : World} {g : GrP} {n l : Nat} {nd : NodeP} (h : GAt W g) (hn : g n = some nd) :
    GAt (W.setCell ⟨n, 2, none⟩ (.int .i64 l)) (updG g n { nd with links := l }) := by
  have hN := h.node n nd hn
  have h1 := hN.lnk
  refine h.upd hn rfl (fun n' nd1 hne hN1 => hN1.set_other hne h1 (i64_not _)) ?_
  have hq : ∀ j, j ≠ 2 → (W.setCell ⟨n, 2, none⟩ (.int .i64 l)).cell? ⟨n, j, none⟩ = W.cell? ⟨n, j, none⟩ := fun j hj => World.cell?_setCell_other _ _ _ _ (by intro e; injection e with _ e; exact hj e.symm)
  obtain ⟨A, k, cc, b1, b2, b3, b4, b5, b6⟩ := hN.byt
  exact ⟨by simpa [World.setCell] using hN.lt, (hq 0 (by decide)).trans hN.kidc, ⟨A, k, cc, (hq 1 (by decide)).trans b1, b2, b3, b4, row_set h1 (i64_not _) b5, b6⟩, World.cell?_setCell_same' _ _ _ (by rw [h1]; rfl), fun j => (World.frozen?_setCell _ _ _ _).trans (hN.frz j), fun m D hm => (hN.own m D hm).setCell (own_ne (hN.own m D hm) h1) _⟩
theorem NodeAt.grown {W W' : World} {n m0 N : Nat} {nd : NodeP} {D0 : DataW Value} (h : NodeAt W n nd) (ho : W.ownsMap Tryz.prog 9 heldV m0 N D0) (hg : W.grownBy W' (some m0)) (hm : ∀ m D, nd.kids = some (m, D) → m ≠ m0) : NodeAt W' n nd := by
  obtain ⟨A, k, cc, h1, h2, h3, h4, h5, h6⟩ := h.byt
  have hne : n ≠ m0 := fun e => own_ne ho h.lnk e.symm
  have hb : ∀ b, b < W.heap.size → b ≠ m0 → W'.heap[b]? = W.heap[b]? := fun b hb hb2 => hg.block b hb (fun e => hb2 (by injection e))
  have hq : ∀ j, W'.cell? ⟨n, j, none⟩ = W.cell? ⟨n, j, none⟩ := fun j => World.cell?_of_block (w := W) (hb n h.lt hne)
  exact ⟨Nat.lt_of_lt_of_le h.lt hg.size, (hq 0).trans h.kidc, ⟨A, k, cc, (hq 1).trans h1, h2, h3, h4, row_grown ho hg h5, h6⟩, (hq 2).trans h.lnk, fun j => (World.frozen?_of_block (w := W) (hb n h.lt hne)).trans (h.frz j), fun m D hm2 => own_block (h.own m D hm2) (hb m (h.own m D hm2).lt (hm m D hm2))⟩
/-- A directory's names are others. -/
theorem GAt.kids_to {W W' : World} {g : GrP} {d m N : Nat} {nd : NodeP} {D D' : DataW Value} (h : GAt W g) (hi : Inj g) (hd : g d = some nd) (hk : nd.kids = some (m, D)) (ho : W'.ownsMap Tryz.prog 9 heldV m N D') (hg : W.grownBy W' (some m))
    (hD : ∀ s, Maps.has D' (.string s) = true → ∃ b, (g b).isSome ∧ ∀ z, D'.atKey (.string s) z = .held (.pointer (some ⟨b, 0, none⟩))) : GAt W' (updG g d { nd with kids := some (m, D') }) := by
  have hN := h.node d nd hd
  have hown := hN.own m D hk
  refine ⟨fun k kd hkd => ?_, fun k kd m1 D1 s hkd hkk hh => ?_⟩
  · by_cases e : k = d
    · subst e
      rw [updG_same] at hkd
      cases hkd
      obtain ⟨A, kk, cc, h1, h2, h3, h4, h5, h6⟩ := hN.byt
      have hne : k ≠ m := fun e => own_ne hown hN.lnk e.symm
      have hb : ∀ b, b < W.heap.size → b ≠ m → W'.heap[b]? = W.heap[b]? := fun b hb hb2 => hg.block b hb (fun e => hb2 (by injection e))
      have hq : ∀ j, W'.cell? ⟨k, j, none⟩ = W.cell? ⟨k, j, none⟩ := fun j => World.cell?_of_block (w := W) (hb k hN.lt hne)
      have hkc := hN.kidc
      rw [hk] at hkc
      exact ⟨Nat.lt_of_lt_of_le hN.lt hg.size, (hq 0).trans hkc, ⟨A, kk, cc, (hq 1).trans h1, h2, h3, h4, row_grown hown hg h5, h6⟩, (hq 2).trans hN.lnk, fun j => (World.frozen?_of_block (w := W) (hb k hN.lt hne)).trans (hN.frz j), fun m2 D2 hm2 => by cases hm2; exact own_exact ho⟩
    · rw [updG_other e] at hkd
      exact (h.node k kd hkd).grown hown hg fun m2 D2 hm2 e2 => by subst e2; exact e (hi k d kd nd m2 D2 D hkd hd hm2 hk)
  · by_cases e : k = d
    · subst e
      rw [updG_same] at hkd
      cases hkd
      cases hkk
      obtain ⟨b, h1, h2⟩ := hD s hh
      exact ⟨b, updG_is b h1, h2⟩
    · rw [updG_other e] at hkd
      obtain ⟨b, h1, h2⟩ := h.kids k kd m1 D1 s hkd hkk hh
      exact ⟨b, updG_is b h1, h2⟩
theorem GAt.put {W W' : World} {g : GrP} {d m N b : Nat} {nd : NodeP} {D : DataW Value} {s : List UInt8} (h : GAt W g) (hi : Inj g) (hd : g d = some nd) (hk : nd.kids = some (m, D)) (hb : (g b).isSome) (ho : W'.ownsMap Tryz.prog 9 heldV m N (D.put (.string s) (.held (.pointer (some ⟨b, 0, none⟩))))) (hg : W.grownBy W' (some m)) :
    GAt W' (updG g d { nd with kids := some (m, D.put (.string s) (.held (.pointer (some ⟨b, 0, none⟩)))) }) := by
  have hM := ((h.node d nd hd).own m D hk).isMap
  refine h.kids_to hi hd hk ho hg fun s' hh => ?_
  by_cases e : s' = s
  · subst e
    exact ⟨b, hb, fun z => atKey_put_same hM (by exact trivial) _ _⟩
  · have hne : (Lit.string s' : Lit) ≠ .string s := fun h => e (by injection h)
    rw [has_put_other hne] at hh
    obtain ⟨b', h1, h2⟩ := h.kids d nd m D s' hd hk hh
    exact ⟨b', h1, fun z => (atKey_put_other hne _ _).trans (h2 z)⟩
theorem GAt.del {W W' : World} {g : GrP} {d m N : Nat} {nd : NodeP} {D : DataW Value} {s : List UInt8} (h : GAt W g) (hi : Inj g) (hd : g d = some nd) (hk : nd.kids = some (m, D)) (ho : W'.ownsMap Tryz.prog 9 heldV m N (D.del (.string s))) (hg : W.grownBy W' (some m)) :
    GAt W' (updG g d { nd with kids := some (m, D.del (.string s)) }) := by
  refine h.kids_to hi hd hk ho hg fun s' hh => ?_
  by_cases e : s' = s
  · subst e
    rw [has_del_same] at hh
    cases hh
  · have hne : (Lit.string s' : Lit) ≠ .string s := fun h => e (by injection h)
    rw [has_del_other hne] at hh
    obtain ⟨b', h1, h2⟩ := h.kids d nd m D s' hd hk hh
    exact ⟨b', h1, fun z => (atKey_del_other hne _).trans (h2 z)⟩
/-- A node that no name leads to. -/
theorem GAt.add {W : World} {g : GrP} {n : Nat} {nd : NodeP} (h : GAt W g) (hn : NodeAt W n nd) (h0 : g n = none) (hk : ∀ m D s, nd.kids = some (m, D) → Maps.has D (.string s) = false) : GAt W (updG g n nd) := by
  refine ⟨fun k kd hkd => ?_, fun k kd m D s hkd hkk hh => ?_⟩
  · by_cases e : k = n
    · subst e
      rw [updG_same] at hkd
      cases hkd
      exact hn
    · rw [updG_other e] at hkd
      exact h.node k kd hkd
  · by_cases e : k = n
    · subst e
      rw [updG_same] at hkd
      cases hkd
      rw [hk m D s hkk] at hh
      cases hh
    · rw [updG_other e] at hkd
      obtain ⟨b, h1, h2⟩ := h.kids k kd m D s hkd hkk hh
      exact ⟨b, updG_is b h1, h2⟩
theorem Inj.upd {g : GrP} {n : Nat} {nd nd' : NodeP} (h : Inj g) (hn : g n = some nd) (hk : nd'.kids.map (·.1) = nd.kids.map (·.1)) : Inj (updG g n nd') := by
  have key : ∀ k kd m D, updG g n nd' k = some kd → kd.kids = some (m, D) → ∃ kd0 D0, g k = some kd0 ∧ kd0.kids = some (m, D0) := fun k kd m D h1 h2 => by
    by_cases e : k = n
    · subst e
      rw [updG_same] at h1
      cases h1
      rw [h2] at hk
      cases hx : nd.kids with
      | none => rw [hx] at hk; cases hk
      | some p => rw [hx] at hk; injection hk with hk; exact ⟨nd, p.2, hn, by rw [hx, show m = p.1 from hk]⟩
    · rw [updG_other e] at h1
      exact ⟨kd, D, h1, h2⟩
  intro a b na nb m D D' h1 h2 h3 h4
  obtain ⟨x, Dx, hx1, hx2⟩ := key a na m D h1 h3
  obtain ⟨y, Dy, hy1, hy2⟩ := key b nb m D' h2 h4
  exact h a b x y m Dx Dy hx1 hy1 hx2 hy2
theorem Inj.add {g : GrP} {n : Nat} {nd : NodeP} (h : Inj g) (hk : ∀ m D, nd.kids = some (m, D) → ¬ inG g m) : Inj (updG g n nd) := by
  intro a b na nb m D D' h1 h2 h3 h4
  by_cases ea : a = n
  · by_cases eb : b = n
    · rw [ea, eb]
    · subst ea
      rw [updG_same] at h1
      cases h1
      rw [updG_other eb] at h2
      exact absurd (.inr ⟨b, nb, D', h2, h4⟩) (hk m D h3)
  · rw [updG_other ea] at h1
    by_cases eb : b = n
    · subst eb
      rw [updG_same] at h2
      cases h2
      exact absurd (.inr ⟨a, na, D, h1, h3⟩) (hk m D' h4)
    · rw [updG_other eb] at h2
      exact h a b na nb m D D' h1 h2 h3 h4
theorem Small.upd {g : GrP} {n N M : Nat} {nd : NodeP} (h : Small g N) (hM : N ≤ M) (hk : ∀ m D, nd.kids = some (m, D) → Maps.size D ≤ M) (hb : nd.bytes.length ≤ 448 ∧ nd.links ≤ 200) : Small (updG g n nd) M := by
  refine ⟨fun k kd m D h1 h2 => ?_, fun k kd h1 => ?_⟩
  · by_cases e : k = n
    · subst e
      rw [updG_same] at h1
      cases h1
      exact hk m D h2
    · rw [updG_other e] at h1
      exact Nat.le_trans (h.1 k kd m D h1 h2) hM
  · by_cases e : k = n
    · subst e
      rw [updG_same] at h1
      cases h1
      exact hb
    · rw [updG_other e] at h1
      exact h.2 k kd h1
theorem inG_upd {g : GrP} {n b : Nat} {nd nd' : NodeP} (hn : g n = some nd) (hk : nd'.kids.map (·.1) = nd.kids.map (·.1)) (h : inG (updG g n nd') b) : inG g b := by
  rcases h with h | ⟨k, kd, D, h1, h2⟩
  · by_cases e : b = n
    · subst e; exact .inl (by rw [hn]; rfl)
    · rw [updG_other e] at h; exact .inl h
  · by_cases e : k = n
    · subst e
      rw [updG_same] at h1
      cases h1
      rw [h2] at hk
      cases hx : nd.kids with
      | none => rw [hx] at hk; cases hk
      | some p => rw [hx] at hk; injection hk with hk; exact .inr ⟨k, nd, p.2, hn, by rw [hx, show b = p.1 from hk]⟩
    · rw [updG_other e] at h1
      exact .inr ⟨k, kd, D, h1, h2⟩
theorem inG_add {g : GrP} {n b : Nat} {nd : NodeP} (h : inG (updG g n nd) b) : inG g b ∨ b = n ∨ ∃ D, nd.kids = some (b, D) := by
  rcases h with h | ⟨k, kd, D, h1, h2⟩
  · by_cases e : b = n
    · exact .inr (.inl e)
    · rw [updG_other e] at h; exact .inl (.inl h)
  · by_cases e : k = n
    · subst e
      rw [updG_same] at h1
      cases h1
      exact .inr (.inr ⟨D, h2⟩)
    · rw [updG_other e] at h1
      exact .inl (.inr ⟨k, kd, D, h1, h2⟩)
/-- A tree in memory: T leads to its root. -/
structure TrAt (W : World) (T root N : Nat) (g : GrP) : Prop where
  tc : W.cell? ⟨T, 0, none⟩ = some (.pointer (some ⟨root, 0, none⟩))
  nodes : GAt W g
  inj : Inj g
  rt : (g root).isSome
  out : ¬ inG g T
  few : Small g N
theorem TrAt.lt {W : World} {T root N : Nat} {g : GrP} (h : TrAt W T root N g) : T < W.heap.size := World.block_lt_of_cell? W ⟨T, 0, none⟩ h.tc
theorem TrAt.below {W W' : World} {T root N : Nat} {g : GrP} (h : TrAt W T root N g) (hb : Below W.heap.size W W') : TrAt W' T root N g :=
  ⟨(hb.cell (p := ⟨T, 0, none⟩) h.lt).trans h.tc, h.nodes.below hb, h.inj, h.rt, h.out, h.few⟩
theorem TrAt.set {W : World} {T root N X i : Nat} {g : GrP} {c v : Value} (h : TrAt W T root N g) (hX : ¬ inG g X) (hT : X ≠ T) (hc : W.cell? ⟨X, i, none⟩ = some c) (hne : ∀ x, c ≠ encB x) : TrAt (W.setCell ⟨X, i, none⟩ v) T root N g :=
  ⟨(World.cell?_setCell_other _ _ _ _ (by intro e; injection e with e; exact hT e)).trans h.tc,
    ⟨fun n nd hn => (h.nodes.node n nd hn).set_other (by rintro rfl; exact hX (.inl (by rw [hn]; rfl))) hc hne, h.nodes.kids⟩, h.inj, h.rt, h.out, h.few⟩
/-- A tree that was turned. -/
structure Turn (T root M base : Nat) (g g' : GrP) (W W' : World) : Prop where
  tree : TrAt W' T root M g'
  kept : Kept (inG g) W W'
  sub : ∀ b, inG g' b → inG g b ∨ base ≤ b
namespace Turn
variable {T root M base : Nat} {g g' : GrP} {W W1 W2 : World}
theorem same {N : Nat} (h : TrAt W T root N g) (hN : N ≤ M) (hb : Below W.heap.size W W1) : Turn T root M base g g W W1 :=
  ⟨let k := h.below hb; ⟨k.tc, k.nodes, k.inj, k.rt, k.out, ⟨fun n nd m D h1 h2 => Nat.le_trans (k.few.1 n nd m D h1 h2) hN, k.few.2⟩⟩, .of_below hb, fun _ h => .inl h⟩
theorem front (h : Turn T root M base g g' W1 W2) (hb : Below W.heap.size W W1) : Turn T root M base g g' W W2 := ⟨h.tree, .belowAnd hb h.kept, h.sub⟩
theorem back (h : Turn T root M base g g' W W1) (hb : Below W1.heap.size W1 W2) : Turn T root M base g g' W W2 := ⟨h.tree.below hb, h.kept.andBelow hb, h.sub⟩
theorem base_ {b' : Nat} (h : Turn T root M base g g' W W1) (hb : b' ≤ base) : Turn T root M b' g g' W W1 := ⟨h.tree, h.kept, fun b k => (h.sub b k).imp id (Nat.le_trans hb)⟩
theorem set {X i : Nat} {c v : Value} (h : Turn T root M base g g' W W1) (hX : X < base) (hX2 : W.heap.size ≤ X) (hG : GAt W g) (hT : T < W.heap.size) (hc : W1.cell? ⟨X, i, none⟩ = some c) (hne : ∀ x, c ≠ encB x) : Turn T root M base g g' W (W1.setCell ⟨X, i, none⟩ v) :=
  ⟨h.tree.set (fun e => by rcases h.sub X e with e | e; exact absurd (hG.lt e) (by omega); omega) (by omega) hc hne, h.kept.set (.inr hX2) v, h.sub⟩
end Turn
end Go.Proofs.YtibpagmpdgflmaaGreatDoor

namespace Go.Proofs.YtibpagmpdgflmaaGreatDoor
open Go.RowKit Go.Maps Go.WideMaps
attribute [local go_sem] Oper.semAt_some

/-- The node that a path leads to, or none's number. -/
def nodeAt (g : GrP) (root : Nat) (s : List UInt8) : Nat := (walkG g (readP s).2 root).1
/-- What telling of a path's node gives up with. -/
def errAt (c : NodeP → Int) (g : GrP) (root : Nat) (s : List UInt8) : Int :=
  if (readP s).1 ≠ 0 then (readP s).1 else
    match walkG g (readP s).2 root with
    | (b, 0) => (match g b with | some nd => c nd | none => 0)
    | (_, z) => (z : Nat)
def FoundR (c : NodeP → Int) (P : NodeP → Value → World → Prop) (z : Value) (g : GrP) (root : Nat) (s : List UInt8) (W : World) (e : Ending) (W' : World) : Prop :=
  ∃ v, e = .returned (.tuple #[v, .int .i64 (errAt c g root s)]) ∧ (errAt c g root s = 0 → ∃ nd, g (nodeAt g root s) = some nd ∧ P nd v W') ∧ (errAt c g root s ≠ 0 → v = z) ∧ Below W.heap.size W W'
/-- None, or a block that was laid behind. -/
def FreshA (base : Nat) (A : Option Addr) : Prop := A = none ∨ ∃ g, base ≤ g ∧ A = some ⟨g, 0, none⟩
theorem FreshA.plain {base : Nat} {A : Option Addr} (h : FreshA base A) : PlainA A := by
  rcases h with h | ⟨g, _, h⟩
  · exact .inl h
  · exact .inr ⟨g, 0, h⟩
theorem FreshA.mono {base b' : Nat} {A : Option Addr} (h : FreshA base A) (hb : b' ≤ base) : FreshA b' A := by
  rcases h with h | ⟨g, h1, h⟩
  · exact .inl h
  · exact .inr ⟨g, Nat.le_trans hb h1, h⟩
theorem clone_bytes (A : Option Addr) (k c : Nat) (bs : List UInt8) (w : World) (hl : bs.length = k) (hk : k ≤ 100000) (hP : PlainA A) (h : RowAt w A (bs.map encB)) :
    Calls Tryz.prog 83 #[.slice A k c] w fun e w' => ∃ A' c', e = .returned (.slice A' k c') ∧ k ≤ c' ∧ c' ≤ maxLen ∧ RowAt w' A' (bs.map encB) ∧ FreshA w.heap.size A' ∧ (A' = none → c' = 0) ∧ Below w.heap.size w w' := by
  rcases hP with rfl | ⟨b, off, rfl⟩
  · obtain rfl : bs = [] := by
      cases bs with
      | nil => rfl
      | cons x l => obtain ⟨_, _, e, _⟩ := h (by simp); cases e
    obtain rfl : k = 0 := by simpa using hl.symm
    refine (AnyE.slices_Clone_nil Tryz.cloneByte 0 c w).mono ?_
    rintro e w' ⟨rfl, rfl⟩
    exact ⟨none, 0, rfl, Nat.le_refl _, by simp [maxLen], RowAt.nil, .inl rfl, fun _ => rfl, Below.refl _ _⟩
  · obtain ⟨i0, hi, hz0, hz1, hz2⟩ := info_parts Tryz.infoU8
    have hc := AnyE.slices_Clone Tryz.cloneByte i0 (.int .u8 0) 1 1 hi hz0 hz1 hz2 rfl (by decide) Tryz.sizeOf5 b off k c (bs.map encB) w (by rw [List.length_map, hl, Nat.mul_one]) (by unfold maxLen; omega) (by omega)
      (fun j u hu => by
        obtain ⟨b', off', e, _, hc⟩ := h.get hu
        cases e; exact hc)
      (fun u hu => by obtain ⟨x, _, rfl⟩ := List.mem_map.1 hu; rfl)
    change Calls Tryz.prog 83 _ _ _ at hc
    refine hc.mono ?_
    rintro e w' ⟨v, rfl, hown, _, hb⟩
    obtain ⟨A, cap, rfl, h1, h2⟩ := owns_slice hown
    refine ⟨A, cap, rfl, h1, h2, row_of_own hown, ?_, fun e => ?_, hb⟩
    · rcases hown.2 with ⟨h3, _⟩ | ⟨g, cap', cur, h3, h4, _⟩
      · cases h3; exact .inl rfl
      · cases h3; exact .inr ⟨g, h4, rfl⟩
    · rcases hown.2 with ⟨h3, _⟩ | ⟨g, cap', cur, h3, h4, _⟩
      · injection h3
      · rw [e] at h3; cases h3
end Go.Proofs.YtibpagmpdgflmaaGreatDoor

namespace Go.Proofs.YtibpagmpdgflmaaGreatDoor
open Go.RowKit Go.Maps Go.WideMaps
attribute [local go_sem] Oper.semAt_some

theorem done1_any (W : World) : Calls Tryz.prog 174 #[] W fun e W' => e = .returned (.tuple #[]) ∧ W' = W := by
  go_enter Tryz.func174, Tryz.ntmps174
  go_wp2
  go_end0
  exact ⟨rfl, rfl⟩
def unitOr (c : Int) : Ending := if c = 0 then .returned (.tuple #[]) else .panicked [errE c]
set_option maxRecDepth 100000 in
set_option maxHeartbeats 4000000 in
theorem tdone_any (fn : FuncId) (caps : Array Value) (T : Nat) (A : Option Addr) (ln lc : Nat) (z : Int) (W : World) (Q : Int → World → Prop)
    (HREAD : ∀ w, Below W.heap.size W w → Calls Tryz.prog 161 #[.pointer (some ⟨T, 0, none⟩), .slice A ln lc] w fun e w' => e = unitOr z ∧ Below w.heap.size w w')
    (hent : ∀ w, (callFunc fn caps).run Tryz.prog w = .ok (.enter fn caps) w)
    (HDO : z = 0 → ∀ w, Below W.heap.size W w → W.heap.size + 1 ≤ w.heap.size → Calls Tryz.prog fn caps w fun e w' => ∃ c, e = unitOr c ∧ Q c w' ∧ w'.heap[W.heap.size]? = w.heap[W.heap.size]?)
    (hbad : z ≠ 0 → ∀ w, Below W.heap.size W w → Q z w)
    (hset : ∀ c w v, Q c w → w.cell? ⟨W.heap.size, 0, none⟩ = some (.int .i64 0) → Q c (w.setCell ⟨W.heap.size, 0, none⟩ (.int .i64 v))) :
    Calls Tryz.prog 136 #[.pointer (some ⟨T, 0, none⟩), .func (.func fn) #[] caps, .slice A ln lc] W fun e W' => ∃ c, e = .returned (.int .i64 c) ∧ Q c W' := by
  have hmf : ∀ (fn : Fn) (first cap : Array Value) (w : World), (Instr.makeFunc fn first cap).run Tryz.prog w = .ok (.func fn first cap) w := fun _ _ _ _ => rfl
  obtain ⟨W0, hW0⟩ : ∃ W0, W.alloc (.cells #[.int .i64 0] 22) = W0 := ⟨_, rfl⟩
  have hb0 : Below W.heap.size W W0 := by rw [← hW0]; exact (Below.refl _ _).alloc (Nat.le_refl _) _
  have hs0 : W0.heap.size = W.heap.size + 1 := by rw [← hW0]; simp
  have HCE : Hid (CellsAt W0 W.heap.size 1 (fun _ => .int .i64 0)) := by
    rw [Hid, ← hW0]
    exact cellsAt_new W #[.int .i64 0] 22 1 _ fun i hi => by rw [show i = 0 from by omega]; rfl
  have HRD := Lib.hid (HREAD W0 hb0)
  have HW0 := Lib.hid hW0
  have HB0 := Lib.hid hb0
  have HQ := Lib.hid hset
  have HBAD := Lib.hid hbad
  clear hW0 hb0 HREAD hset hbad
  unfold unitOr at HRD
  by_cases hz : z = 0
  · rw [if_pos hz] at HRD
    have HD2 := Lib.hid (HDO hz)
    clear HDO
    go_enter_defers Tryz.func136, Tryz.ntmps136
    go_wp2_with (first
      | (go_at_call 161; rw [HW0.out]; refine HRD.out.mono ?_; rintro e w2 ⟨rfl, hb2⟩; have hent2 := hent w2))
    have hB2 : Below W.heap.size W w2 := HB0.out.trans (hb2.mono (by omega))
    have hE2 := HCE.out.below hb2 (by omega)
    refine (HD2.out w2 hB2 (by have := hb2.size; omega)).mono ?_
    rintro e w3 ⟨c, rfl, hq, hk⟩
    have e3 : w3.cell? ⟨W.heap.size, 0, none⟩ = some (.int .i64 0) := (World.cell?_of_block (w := w2) hk).trans (hE2.1 0 (by omega))
    have f3 : w3.frozen? ⟨W.heap.size, 0, none⟩ = false := (World.frozen?_of_block (w := w2) hk).trans (hE2.2 0)
    unfold unitOr
    have HQ3 := Lib.hid hq
    clear hq
    by_cases hc : c = 0
    · subst hc
      rw [if_pos rfl]
      go_wp2_with fail
      refine leaves_cons (f := 159) (args := #[.pointer (some ⟨W.heap.size, 0, none⟩), .func (.func 174) #[] #[]]) (by simp) (by simp [go_sem]) ?_
      refine (tree_catches.idle _ _ _).mono ?_
      rintro e u' w6 ⟨rfl, rfl, rfl⟩
      have q6 := HQ.out 0 w3 0 HQ3.out e3
      have e6 : (w3.setCell ⟨W.heap.size, 0, none⟩ (.int .i64 0)).cell? ⟨W.heap.size, 0, none⟩ = some (.int .i64 0) := World.cell?_setCell_same' _ _ _ (by rw [e3]; rfl)
      generalize w3.setCell ⟨W.heap.size, 0, none⟩ (.int .i64 0) = wq at *
      simp [Leaves, settle, results, Tryz.results136, go_sem, e6]
      exact q6
    · rw [if_neg hc]
      simp only
      refine leaves_cons (f := 159) (args := #[.pointer (some ⟨W.heap.size, 0, none⟩), .func (.func 174) #[] #[]]) (by simp) (by simp [go_sem]) ?_
      refine (tree_catches.err W.heap.size 174 #[] c [] _ _ w3 e3 f3 (enters_of Tryz.func174 (by kernel_rfl) rfl _) (done1_any _)).mono ?_
      rintro e u' w6 ⟨rfl, rfl, rfl⟩
      have q6 := HQ.out c w3 c HQ3.out e3
      have e6 : (w3.setCell ⟨W.heap.size, 0, none⟩ (.int .i64 c)).cell? ⟨W.heap.size, 0, none⟩ = some (.int .i64 c) := World.cell?_setCell_same' _ _ _ (by rw [e3]; rfl)
      generalize w3.setCell ⟨W.heap.size, 0, none⟩ (.int .i64 c) = wq at *
      simp [Leaves, settle, results, Tryz.results136, go_sem, e6]
      exact q6
  · rw [if_neg hz] at HRD
    go_enter_defers Tryz.func136, Tryz.ntmps136
    go_wp2_with (first
      | (go_at_call 161; rw [HW0.out]; refine HRD.out.mono ?_; rintro e w2 ⟨rfl, hb2⟩))
    have hB2 : Below W.heap.size W w2 := HB0.out.trans (hb2.mono (by omega))
    have hE2 := HCE.out.below hb2 (by omega)
    have e3 := hE2.1 0 (by omega)
    have f3 := hE2.2 0
    have hq := HBAD.out hz w2 hB2
    refine leaves_cons (f := 159) (args := #[.pointer (some ⟨W.heap.size, 0, none⟩), .func (.func 174) #[] #[]]) (by simp) (by simp [go_sem]) ?_
    refine (tree_catches.err W.heap.size 174 #[] z [] _ _ w2 e3 f3 (enters_of Tryz.func174 (by kernel_rfl) rfl _) (done1_any _)).mono ?_
    rintro e u' w6 ⟨rfl, rfl, rfl⟩
    have q6 := HQ.out z w2 z hq e3
    have e6 : (w2.setCell ⟨W.heap.size, 0, none⟩ (.int .i64 z)).cell? ⟨W.heap.size, 0, none⟩ = some (.int .i64 z) := World.cell?_setCell_same' _ _ _ (by rw [e3]; rfl)
    generalize w2.setCell ⟨W.heap.size, 0, none⟩ (.int .i64 z) = wq at *
    simp [Leaves, settle, results, Tryz.results136, go_sem, e6]
    exact q6
/-- What is said of two paths. -/
def read2 (s d : List UInt8) : Int := if (readP s).1 = 0 then (readP d).1 else (readP s).1
set_option maxRecDepth 100000 in
set_option maxHeartbeats 4000000 in
theorem tread2_any (T root b : Nat) (s d : ByteArray) (W : World) (hs : s.size < 4294967281) (hd : d.size < 4294967281) (hT : W.cell? ⟨T, 0, none⟩ = some (.pointer (some ⟨root, 0, none⟩))) (hb : W.cell? ⟨b, 0, none⟩ = some (.string s)) (hb1 : W.cell? ⟨b, 1, none⟩ = some (.string d)) :
    Calls Tryz.prog 161 #[.pointer (some ⟨T, 0, none⟩), .slice (some ⟨b, 0, none⟩) 2 2] W fun e W' => e = unitOr (read2 (bytesOf s) (bytesOf d)) ∧ Below W.heap.size W W' := by
  have HS := Lib.hid (tsplit_any s W hs)
  have HS2 := Lib.hid (fun w => tsplit_any d w hd)
  have HM := Lib.hid tmust_any
  have HN := Lib.hid (tnone_no T root W hT)
  have hbl := World.block_lt_of_cell? W ⟨b, 0, none⟩ hb
  unfold SplitT at HS HS2
  unfold read2 unitOr
  by_cases hz : (readP (bytesOf s)).1 = 0
  · rw [if_pos hz]
    simp only [hz, if_true] at HS
    by_cases hz2 : (readP (bytesOf d)).1 = 0
    · rw [if_pos hz2]
      simp only [hz2, if_true] at HS2
      go_enter Tryz.func161, Tryz.ntmps161
      go_wp2_with (first
        | (go_at_call 57; refine HN.out.mono ?_; rintro e w2 ⟨rfl, rfl⟩)
        | (go_at_call 130; refine (HM.out _ _ _).mono ?_; rintro e w2 ⟨rfl, rfl⟩))
      refine wp_loop_rounds 3 ?_
      rw [rounds_succ]
      go_wp2_with (first
        | (go_at_call 146; refine HS.out.mono ?_; rintro e w3 ⟨⟨A, c, rfl, h1, h2, h3⟩, hbb⟩; clear h3; have hc1 := (hbb.cell (p := ⟨b, 1, none⟩) hbl).trans hb1))
      rw [rounds_succ]
      go_wp2_with (first
        | (go_at_call 146; refine (HS2.out _).mono ?_; rintro e w4 ⟨⟨A4, c4, rfl, h41, h42, h43⟩, hbb4⟩; clear h43))
      rw [rounds_succ]
      go_wp2_with fail
      go_end0
      exact ⟨rfl, hbb.trans (hbb4.mono hbb.size)⟩
    · rw [if_neg hz2]
      simp only [hz2, if_false] at HS2
      go_enter Tryz.func161, Tryz.ntmps161
      go_wp2_with (first
        | (go_at_call 57; refine HN.out.mono ?_; rintro e w2 ⟨rfl, rfl⟩)
        | (go_at_call 130; refine (HM.out _ _ _).mono ?_; rintro e w2 ⟨rfl, rfl⟩))
      refine wp_loop_rounds 3 ?_
      rw [rounds_succ]
      go_wp2_with (first
        | (go_at_call 146; refine HS.out.mono ?_; rintro e w3 ⟨⟨A, c, rfl, h1, h2, h3⟩, hbb⟩; clear h3; have hc1 := (hbb.cell (p := ⟨b, 1, none⟩) hbl).trans hb1))
      rw [rounds_succ]
      go_wp2_with (first
        | (go_at_call 146; refine (HS2.out _).mono ?_; rintro e w4 ⟨rfl, hbb4⟩))
      exact ⟨rfl, rfl, hbb.trans (hbb4.mono hbb.size)⟩
  · rw [if_neg hz, if_neg hz]
    simp only [hz, if_false] at HS
    go_enter Tryz.func161, Tryz.ntmps161
    go_wp2_with (first
      | (go_at_call 57; refine HN.out.mono ?_; rintro e w2 ⟨rfl, rfl⟩)
      | (go_at_call 130; refine (HM.out _ _ _).mono ?_; rintro e w2 ⟨rfl, rfl⟩))
    refine wp_loop_rounds 3 ?_
    rw [rounds_succ]
    go_wp2_with (first
      | (go_at_call 146; refine HS.out.mono ?_; rintro e w3 ⟨rfl, hbb⟩))
    exact ⟨rfl, rfl, hbb⟩
end Go.Proofs.YtibpagmpdgflmaaGreatDoor


namespace Go.Proofs.YtibpagmpdgflmaaGreatDoor
open Go.RowKit Go.Maps Go.WideMaps
attribute [local go_sem] Oper.semAt_some

theorem readN_zero {l : List (List UInt8)} (h : (readN l).1 = 0) : (readN l).2 = l := by
  unfold readN at h ⊢
  split
  · rename_i h1; rw [if_pos h1] at h; cases h
  · rename_i h1
    rw [if_neg h1] at h
    split
    · rename_i h2; rw [if_pos h2] at h; cases h
    · rename_i h2
      rw [if_neg h2] at h
      split
      · rfl
      · rename_i h3; rw [if_neg h3] at h; cases h
theorem names_root {s : List UInt8} (h : (readP s).1 = 0) (h2 : (readP s).2 = []) : s = [47] := by
  unfold readP at h h2
  split at h
  · rename_i hp
    rw [if_pos hp] at h2
    unfold readR at h h2
    split at h
    · rename_i hd
      obtain ⟨b, l, rfl⟩ : ∃ b l, s = b :: l := by
        cases s with
        | nil => cases hp
        | cons b l => exact ⟨b, l, rfl⟩
      have hl : l = [] := hd
      subst hl
      have hb : b = 47 := by
        have h0 : (47 == b && true) = true := hp
        simp at h0
        exact h0.symm
      rw [hb]
    · rename_i hd
      rw [if_neg hd] at h2
      rw [readN_zero h] at h2
      exact absurd h2 (splitL_ne _ _)
  · cases h
theorem fineL (s : List UInt8) : (readP s).2.length ≤ 100000 ∧ ∀ x ∈ (readP s).2, x.length ≤ 100000 := by
  have hfine : (readP s).2.length ≤ 16 ∧ ∀ x ∈ (readP s).2, x.length ≤ 40 := by
    rcases readP_cases s with h | h
    · exact h.2.1
    · rw [h.2]; exact ⟨by simp, by simp⟩
  exact ⟨by have := hfine.1; omega, fun x hx => by have := hfine.2 x hx; omega⟩
/-- The directory that a path's last name is in. -/
def spotE (g : GrP) (root : Nat) (l : List (List UInt8)) : Nat × Nat :=
  match walkG g l.dropLast root with
  | (d, 0) => (match g d with | some nd => if nd.kids.isSome then (d, 0) else (d, 201) | none => (d, 0))
  | (d, z) => (d, z)
def lastL (l : List (List UInt8)) : List UInt8 := l.getLastD []
/-- What spot tells. -/
def SpotR (g : GrP) (l : List (List UInt8)) (r : Nat × Nat) (W : World) (e : Ending) (W' : World) : Prop :=
  e = (if r.2 = 0 then .returned (.agg #[.pointer (some ⟨r.1, 0, none⟩), .string (ofBytes (lastL l))]) else .panicked [errE r.2]) ∧ (r.2 = 0 → ∃ nd m D, g r.1 = some nd ∧ nd.kids = some (m, D)) ∧ Below W.heap.size W W'
set_option maxRecDepth 100000 in
set_option maxHeartbeats 4000000 in
theorem tspot_any (g : GrP) (T root : Nat) (s : ByteArray) (W : World) (hs : s.size < 4294967281) (h : GAt W g) (hr : (g root).isSome) (hT : W.cell? ⟨T, 0, none⟩ = some (.pointer (some ⟨root, 0, none⟩))) (hz : (readP (bytesOf s)).1 = 0) (hne : (readP (bytesOf s)).2 ≠ []) :
    Calls Tryz.prog 142 #[.pointer (some ⟨T, 0, none⟩), .string s] W (SpotR g (readP (bytesOf s)).2 (spotE g root (readP (bytesOf s)).2) W) := by
  have HS := Lib.hid (tsplit_any s W hs)
  unfold SplitT at HS
  simp only [hz, if_true] at HS
  have hf := fineL (bytesOf s)
  obtain ⟨l, hl⟩ : ∃ l, (readP (bytesOf s)).2 = l := ⟨_, rfl⟩
  rw [hl] at HS hne hf ⊢
  obtain ⟨n, hn⟩ : ∃ n, l.length = n := ⟨_, rfl⟩
  rw [hn] at HS
  have hn0 : 0 < n := by rw [← hn]; exact List.length_pos_iff.2 hne
  obtain ⟨x, hx⟩ : ∃ x, l[n - 1]? = some x := ⟨_, List.getElem?_eq_getElem (by omega)⟩
  have hlast : lastL l = x := by
    unfold lastL
    rw [List.getLastD_eq_getLast?, List.getLast?_eq_getElem?, hn, hx]
    rfl
  have HM := Lib.hid tmust_any
  have HTD := Lib.hid tdir_any
  have HG := Lib.hid h
  have HW := Lib.hid (fun A c w hg hrow => twalked_any g l.dropLast A (n - 1) c root w hg hr (by rw [List.length_dropLast, hn]) (by omega) (fun y hy => hf.2 y (List.dropLast_subset _ hy)) hrow)
  have hTl := World.block_lt_of_cell? W ⟨T, 0, none⟩ hT
  have e1 : ((n : Int) - 1) = ((n - 1 : Nat) : Int) := by omega
  have e2 : n - 1 ≤ n := Nat.sub_le _ _
  have e3 : n - 1 < n := by omega
  obtain ⟨k, hk⟩ : ∃ k, n - 1 = k := ⟨_, rfl⟩
  rw [hk] at hx HW e1 e2 e3
  obtain ⟨d, zz, hr2⟩ : ∃ d zz, walkG g l.dropLast root = (d, zz) := ⟨_, _, rfl⟩
  have HSP : Hid (spotE g root l = if zz = 0 then (match g d with | some nd => if nd.kids.isSome then (d, 0) else (d, 201) | none => (d, 0)) else (d, zz)) := by
    rw [Hid]; unfold spotE; rw [hr2]
    cases zz with
    | zero => rfl
    | succ n => rfl
  rw [hr2] at HW
  generalize spotE g root l = sp at *
  have hdl : (l.map fun x => Value.string (ofBytes x)).take k = l.dropLast.map fun x => Value.string (ofBytes x) := by
    rw [← List.map_take, List.dropLast_eq_take, hn, hk]
  have hmx : Tryz.prog.follows .mixedOrders = true := by kernel_rfl
  obtain ⟨W0, hW0⟩ : ∃ W0, W.alloc (.cells #[.pointer none, .string ⟨#[]⟩] 188) = W0 := ⟨_, rfl⟩
  have hb0 : Below W.heap.size W W0 := by rw [← hW0]; exact (Below.refl _ _).alloc (Nat.le_refl _) _
  have hs0 : W0.heap.size = W.heap.size + 1 := by rw [← hW0]; simp
  have HC0 : Hid (CellsAt W0 W.heap.size 2 (fun i => match i with | 0 => .pointer none | _ => .string ⟨#[]⟩)) := by
    rw [Hid, ← hW0]; exact cellsAt_new _ _ _ _ _ fun i hi => match i, hi with | 0, _ => rfl | 1, _ => rfl
  have hT0 : W0.cell? ⟨T, 0, none⟩ = some (.pointer (some ⟨root, 0, none⟩)) := (hb0.cell (p := ⟨T, 0, none⟩) hTl).trans hT
  have HW0 := Lib.hid hW0
  have HB0 := Lib.hid hb0
  have HS0 : Hid (Calls Tryz.prog 146 #[.string s] W0 fun e W' => (∃ A c, e = .returned (.slice A n c) ∧ n ≤ c ∧ c ≤ maxLen ∧ RowAt W' A (l.map fun x => .string (ofBytes x))) ∧ Below W0.heap.size W0 W') := by
    have := tsplit_any s W0 hs
    unfold SplitT at this
    simp only [hz, if_true, hl, hn] at this
    exact this
  clear hW0 hb0 HS
  go_enter Tryz.func142, Tryz.ntmps142
  go_wp2_with (first
    | (go_at_call 146; rw [HW0.out]; refine HS0.out.mono ?_; rintro e w2 ⟨⟨A, c, rfl, h1, h2, h3⟩, hb2⟩; have H3 := Lib.hid h3; clear h3; have hT2 := (hb2.cell (p := ⟨T, 0, none⟩) (by show T < W0.heap.size; omega)).trans hT0))
  rename_i K hK
  have HK := Lib.hid hK
  clear hK
  have hB2 : Below W.heap.size W w2 := HB0.out.trans (hb2.mono (by omega))
  have hG2 : GAt w2.drew g := HG.out.below (hB2.drew)
  have hrow2 : RowAt w2.drew A (l.dropLast.map fun x => .string (ofBytes x)) := by
    have := H3.out.take k
    rw [hdl] at this
    exact this
  have hwk := HW.out A c w2.drew hG2 hrow2
  have hkc : (k : Int) ≤ (c : Int) := by omega
  have hS0 : w2.drew.cell? ⟨T, 0, none⟩ = some (.pointer (some ⟨root, 0, none⟩)) := hT2
  have HWK := Lib.hid hwk
  clear hwk
  refine (wpIn_wide (n := 10)).1 ?_
  refine whichever_region (fun w => w.cell? ⟨T, 0, none⟩ = some (.pointer (some ⟨root, 0, none⟩))) [] hmx ?_
  refine whichever_take 0 (.pointer (some ⟨T, 0, none⟩)) [] rfl (by kernel_rfl) (fun _ _ _ h => h) hS0 (by rfl) (fun w hw => ?_) ?_
  · constructor <;> go_simp
  refine whichever_take 1 (.pointer (some ⟨T, 0, none⟩)) [] rfl (by kernel_rfl) (fun _ _ _ h => h) hS0 (by rfl) (fun w hw => ?_) ?_
  · constructor <;> go_simp
  refine whichever_take 2 (.pointer (some ⟨T, 0, none⟩)) [] rfl (by kernel_rfl) (fun _ _ _ h => h) hS0 (by rfl) (fun w hw => ?_) ?_
  · constructor <;> go_simp
  refine whichever_take 3 (.pointer (some ⟨root, 0, none⟩)) [] rfl (by kernel_rfl) (fun _ _ _ h => h) hS0 (by rfl) (fun w hw => ?_) ?_
  · constructor <;> go_simp
  refine whichever_take 4 (.slice A n c) [] rfl (by kernel_rfl) (fun _ _ _ h => h) hS0 (by rfl) (fun w hw => ?_) ?_
  · constructor <;> go_simp
  refine whichever_take 5 (.int .i64 k) [] rfl (by kernel_rfl) (fun _ _ _ h => h) hS0 (by rfl) (fun w hw => ?_) ?_
  · constructor <;> go_simp
  refine whichever_take 6 (.slice A k c) [] rfl (by kernel_rfl) (fun _ _ _ h => h) hS0 (by rfl) (fun w hw => ?_) ?_
  · constructor <;> go_simp
  refine whichever_next 7 rfl (by kernel_rfl) (by rfl) ?_
  go_simp
  refine ⟨trivial, callsIn_wide.2 (HWK.out.mono ?_)⟩
  rintro e w4 ⟨he, hsome, rfl⟩
  simp only at he hsome
  by_cases hzz : zz = 0
  · subst hzz
    rw [if_pos rfl] at he
    subst he
    obtain ⟨nd, hnd⟩ := Option.isSome_iff_exists.1 (hsome rfl)
    simp only
    refine ⟨hS0, ?_⟩
    refine whichever_next 8 rfl (by kernel_rfl) (by rfl) ?_
    go_simp
    refine whichever_end (by kernel_rfl) ?_
    refine HK.out _ _ ?_
    have hND := HTD.out d nd w2.drew (hG2.node d nd hnd)
    have HND := Lib.hid hND
    clear hND
    have hC := HC0.out.below hb2 (by omega)
    have r0 := hC.1 0 (by omega)
    have r1 := hC.1 1 (by omega)
    have f0 := hC.2 0
    have f1 := hC.2 1
    obtain ⟨bx, offx, hA, hbx, hcx⟩ := H3.out (by rw [List.length_map]; omega)
    subst hA
    have hcl := hcx k (.string (ofBytes x)) (by rw [List.getElem?_map, hx]; rfl)
    clear hx hcx
    cases hki : nd.kids with
    | none =>
      have HS2 : Hid (sp = (d, 201)) := by rw [Hid, HSP.out, if_pos rfl, hnd]; simp only; rw [hki]; rfl
      rw [hki] at HND
      go_wp2_with (first
        | (go_at_call 113; refine HND.out.mono ?_; rintro e w5 ⟨rfl, rfl⟩)
        | (go_at_call 130; refine (HM.out _ _ _).mono ?_; rintro e w5 ⟨rfl, rfl⟩))
      refine ⟨rfl, ?_⟩
      unfold SpotR
      rw [HS2.out, hlast]
      exact ⟨rfl, (fun h => by cases h), hB2.drew⟩
    | some p =>
      obtain ⟨m, D⟩ := p
      have HS2 : Hid (sp = (d, 0)) := by rw [Hid, HSP.out, if_pos rfl, hnd]; simp only; rw [hki]; rfl
      rw [hki] at HND
      go_wp2_with (first
        | (go_at_call 113; refine HND.out.mono ?_; rintro e w5 ⟨rfl, rfl⟩)
        | (go_at_call 130; refine (HM.out _ _ _).mono ?_; rintro e w5 ⟨rfl, rfl⟩))
      have hBF : Below W.heap.size W (((w2.setCell ⟨W.heap.size, 0, none⟩ (.pointer (some ⟨d, 0, none⟩))).setCell ⟨W.heap.size, 1, none⟩ (.string (ofBytes x))).drew) := ((hB2.setCell (Nat.le_refl _) _).setCell (Nat.le_refl _) _).drew
      have hCF : CellsAt (((w2.setCell ⟨W.heap.size, 0, none⟩ (.pointer (some ⟨d, 0, none⟩))).setCell ⟨W.heap.size, 1, none⟩ (.string (ofBytes x))).drew) W.heap.size 2 (fun i => match i with | 0 => .pointer (some ⟨d, 0, none⟩) | _ => .string (ofBytes x)) :=
        cells_congr ((hC.upd (i := 0) (v := .pointer (some ⟨d, 0, none⟩)) (by omega)).upd (i := 1) (v := .string (ofBytes x)) (by omega)) fun i hi => match i, hi with | 0, _ => rfl | 1, _ => rfl
      generalize (((w2.setCell ⟨W.heap.size, 0, none⟩ (.pointer (some ⟨d, 0, none⟩))).setCell ⟨W.heap.size, 1, none⟩ (.string (ofBytes x))).drew) = wE at *
      have z0 := hCF.1 0 (by omega)
      have z1 := hCF.1 1 (by omega)
      refine bodyPost_ret (v := .agg #[.pointer (some ⟨d, 0, none⟩), .string (ofBytes x)]) (by simp [results, Tryz.results142, go_sem, z0, z1]) rfl ?_
      unfold SpotR
      rw [HS2.out, hlast]
      exact ⟨rfl, fun _ => ⟨nd, m, D, hnd, hki⟩, hBF⟩
  · rw [if_neg hzz] at he
    subst he
    have HS2 : Hid (sp = (d, zz)) := by rw [Hid, HSP.out, if_neg hzz]
    simp only
    refine ⟨rfl, ?_⟩
    unfold SpotR
    rw [HS2.out, hlast]
    exact ⟨(if_neg hzz).symm, (fun h => absurd h hzz), hB2.drew⟩
theorem slash_eq (s : ByteArray) : (s.toList == [47]) = decide (bytesOf s = [47]) := by
  rw [Bool.eq_iff_iff, beq_iff_eq, decide_eq_true_iff]
  have e47 : (ofBytes [47]).toList = [47] := by kernel_rfl
  constructor
  · intro h
    have : s = ofBytes [47] := toList_inj (h.trans e47.symm)
    rw [this]; rfl
  · intro h
    have : s = ofBytes [47] := by rw [← ofBytes_bytesOf s, h]
    rw [this]; exact e47
theorem slash_ne (s : ByteArray) : (s.toList != [47]) = !decide (bytesOf s = [47]) := by
  unfold bne
  rw [slash_eq]
/-- What the name leads to. -/
def thereV (D : DataW Value) (s : List UInt8) : Value := match D.atKey (.string s) (.held (.pointer none)) with | .held v => v | _ => .pointer none
theorem there_any (d m : Nat) (nd : NodeP) (D : DataW Value) (x : List UInt8) (W : World) (h : NodeAt W d nd) (hk : nd.kids = some (m, D)) (hx : x.length ≤ 100000) :
    Calls Tryz.prog 149 #[.agg #[.pointer (some ⟨d, 0, none⟩), .string (ofBytes x)]] W fun e W' => e = .returned (.tuple #[thereV D x, .bool (Maps.has D (.string x))]) ∧ Below W.heap.size W W' := by
  have c0 := h.kidc
  rw [hk] at c0
  have c0' : W.cell? ⟨d, 0, none⟩ = some (.map (some m)) := c0
  clear c0
  obtain ⟨W0, hW0⟩ : ∃ W0, W.alloc (.cells #[.pointer (some ⟨d, 0, none⟩), .string (ofBytes x)] 188) = W0 := ⟨_, rfl⟩
  have hb0 : Below W.heap.size W W0 := by rw [← hW0]; exact (Below.refl _ _).alloc (Nat.le_refl _) _
  have p0 : W0.cell? ⟨W.heap.size, 0, none⟩ = some (.pointer (some ⟨d, 0, none⟩)) := by rw [← hW0]; exact cell_new _ _ _ 0 _ rfl
  have p1 : W0.cell? ⟨W.heap.size, 1, none⟩ = some (.string (ofBytes x)) := by rw [← hW0]; exact cell_new _ _ _ 1 _ rfl
  have c1' : W0.cell? ⟨d, 0, none⟩ = some (.map (some m)) := (hb0.cell (p := ⟨d, 0, none⟩) h.lt).trans c0'
  have hown := (h.below hb0).own m D hk
  have hds : (ofBytes x).data.toList = x := by simp [ofBytes]
  have hlk : ∀ k, (Instr.lookup 110 (.map (some m)) (.string (ofBytes x)) true).run Tryz.prog (W0.drewN k) = .ok (.tuple #[thereV D x, .bool (Maps.has D (.string x))]) (W0.drewN k) := fun k => by
    have hown' : (W0.drewN k).ownsMap Tryz.prog 9 heldV m (Maps.size D) D := hown
    obtain ⟨v, hlk, hat⟩ := held_ok hown' keyedS Tryz.underlyingNames (zeroNode _) (keyS (s := ofBytes x) (by show x.toArray.size ≤ maxLen; unfold maxLen; simp; omega))
    rw [hds] at hlk hat
    have hv : thereV D x = v := by unfold thereV; rw [hat]
    rw [hv]
    exact hlk
  have HW0 := Lib.hid hW0
  have HB0 := Lib.hid hb0
  clear hW0 hb0 hown c0' hds h
  generalize thereV D x = tv at *
  generalize Maps.has D (.string x) = th at *
  go_enter Tryz.func149, Tryz.ntmps149
  go_wp2_with fail
  rw [HW0.out]
  go_quiet (fail)
  go_wp2_with fail
  go_ret2
  exact ⟨rfl, below_drewN HB0.out _⟩
/-- A spot at which nothing is. -/
def freshE (g : GrP) (root : Nat) (s : List UInt8) : Nat × Nat :=
  if s = [47] then (0, 203) else match spotE g root (readP s).2 with
    | (d, 0) => (match g d with | some nd => (match nd.kids with | some (_, D) => if Maps.has D (.string (lastL (readP s).2)) then (d, 203) else (d, 0) | none => (d, 0)) | none => (d, 0))
    | r => r
def FreshR (g : GrP) (s : List UInt8) (r : Nat × Nat) (W : World) (e : Ending) (W' : World) : Prop :=
  e = (if r.2 = 0 then .returned (.agg #[.pointer (some ⟨r.1, 0, none⟩), .string (ofBytes (lastL (readP s).2))]) else .panicked [errE r.2]) ∧ (r.2 = 0 → ∃ nd m D, g r.1 = some nd ∧ nd.kids = some (m, D) ∧ Maps.has D (.string (lastL (readP s).2)) = false) ∧ Below W.heap.size W W'
theorem lastL_le (s : List UInt8) : (lastL (readP s).2).length ≤ 100000 := by
  unfold lastL
  rw [List.getLastD_eq_getLast?]
  cases h : (readP s).2.getLast? with
  | none => simp
  | some x => exact (fineL s).2 x (List.mem_of_getLast? h)
set_option maxRecDepth 100000 in
set_option maxHeartbeats 4000000 in
theorem tfresh_any (g : GrP) (T root : Nat) (s : ByteArray) (W : World) (hs : s.size < 4294967281) (h : GAt W g) (hr : (g root).isSome) (hT : W.cell? ⟨T, 0, none⟩ = some (.pointer (some ⟨root, 0, none⟩))) (hz : (readP (bytesOf s)).1 = 0) :
    Calls Tryz.prog 138 #[.pointer (some ⟨T, 0, none⟩), .string s] W (FreshR g (bytesOf s) (freshE g root (bytesOf s)) W) := by
  have HM := Lib.hid tmust_any
  by_cases hsl : bytesOf s = [47]
  · have e1 : freshE g root (bytesOf s) = (0, 203) := by unfold freshE; rw [if_pos hsl]
    rw [e1]
    have q1 : (s.toList == [47]) = true := by rw [slash_eq, hsl]; rfl
    have q2 : (s.toList != [47]) = false := by rw [slash_ne, hsl]; rfl
    go_enter Tryz.func138, Tryz.ntmps138
    go_wp2_with (first
      | (go_at_call 130; refine (HM.out _ _ _).mono ?_; rintro e w2 ⟨rfl, rfl⟩))
    refine ⟨rfl, ?_⟩
    unfold FreshR
    exact ⟨rfl, (fun h => by cases h), (Below.refl _ _).alloc (Nat.le_refl _) _⟩
  · have q1 : (s.toList == [47]) = false := by rw [slash_eq]; exact decide_eq_false hsl
    have q2 : (s.toList != [47]) = true := by rw [slash_ne, decide_eq_false hsl]; rfl
    have hne : (readP (bytesOf s)).2 ≠ [] := fun e => hsl (names_root hz e)
    have HSP := Lib.hid (tspot_any g T root s W hs h hr hT hz hne)
    unfold SpotR at HSP
    obtain ⟨x, hx⟩ : ∃ x, lastL (readP (bytesOf s)).2 = x := ⟨_, rfl⟩
    have hxl : x.length ≤ 100000 := by rw [← hx]; exact lastL_le _
    obtain ⟨r, hr2⟩ : ∃ r, freshE g root (bytesOf s) = r := ⟨_, rfl⟩
    have HR : Hid (r = match spotE g root (readP (bytesOf s)).2 with
      | (d, 0) => (match g d with | some nd => (match nd.kids with | some (_, D) => if Maps.has D (.string x) then (d, 203) else (d, 0) | none => (d, 0)) | none => (d, 0))
      | r => r) := by rw [Hid, ← hr2, ← hx]; unfold freshE; rw [if_neg hsl]
    have HX := Lib.hid hx
    rw [hr2]
    rw [hx] at HSP
    have HG := Lib.hid h
    have HTH := Lib.hid there_any
    clear hr2 h
    have hTl := World.block_lt_of_cell? W ⟨T, 0, none⟩ hT
    rcases hsp : spotE g root (readP (bytesOf s)).2 with ⟨d, z⟩
    rw [hsp] at HSP HR
    simp only at HSP
    obtain ⟨W0, hW0⟩ : ∃ W0, W.alloc (.cells #[.pointer none, .string ⟨#[]⟩] 188) = W0 := ⟨_, rfl⟩
    have hb0 : Below W.heap.size W W0 := by rw [← hW0]; exact (Below.refl _ _).alloc (Nat.le_refl _) _
    have hs0 : W0.heap.size = W.heap.size + 1 := by rw [← hW0]; simp
    have HC0 : Hid (CellsAt W0 W.heap.size 2 (fun i => match i with | 0 => .pointer none | _ => .string ⟨#[]⟩)) := by
      rw [Hid, ← hW0]; exact cellsAt_new _ _ _ _ _ fun i hi => match i, hi with | 0, _ => rfl | 1, _ => rfl
    have HSP0 : Hid (Calls Tryz.prog 142 #[.pointer (some ⟨T, 0, none⟩), .string s] W0 (SpotR g (readP (bytesOf s)).2 (d, z) W0)) := by
      have := tspot_any g T root s W0 hs (HG.out.below hb0) hr ((hb0.cell (p := ⟨T, 0, none⟩) hTl).trans hT) hz hne
      rw [hsp] at this
      exact this
    unfold SpotR at HSP0
    rw [hx] at HSP0
    simp only at HSP0
    have HW0 := Lib.hid hW0
    have HB0 := Lib.hid hb0
    clear HSP hW0 hb0 hx
    by_cases hz2 : z = 0
    · subst hz2
      simp only [if_true] at HSP0
      go_enter Tryz.func138, Tryz.ntmps138
      go_wp2_with (first
        | (go_at_call 130; refine (HM.out _ _ _).mono ?_; rintro e w2 ⟨rfl, rfl⟩)
        | (go_at_call 142; rw [HW0.out]; refine HSP0.out.mono ?_; rintro e w2 ⟨rfl, hk2, hb2⟩; have HK2 := Lib.hid hk2; clear hk2))
      obtain ⟨nd, m, D, hg, hk⟩ := HK2.out trivial
      have hG2 := (HG.out.below HB0.out).below hb2
      have hB2 : Below W.heap.size W w2 := HB0.out.trans (hb2.mono (by omega))
      have hC2 := HC0.out.below hb2 (by omega)
      have HC2 := Lib.hid hC2
      have HB2 := Lib.hid hB2
      refine (HTH.out d m nd D x _ ((hG2.node d nd hg).below ((Below.refl _ _).alloc (Nat.le_refl _) _)) hk hxl).mono ?_
      rintro e w4 ⟨rfl, hb4⟩
      have q4 : w4.cell? ⟨w2.heap.size, 0, none⟩ = some (.pointer (some ⟨d, 0, none⟩)) := (hb4.cell (p := ⟨w2.heap.size, 0, none⟩) (by show w2.heap.size < (w2.heap.push _).size; simp)).trans (cell_new _ _ _ 0 _ rfl)
      have q5 : w4.cell? ⟨w2.heap.size, 1, none⟩ = some (.string (ofBytes x)) := (hb4.cell (p := ⟨w2.heap.size, 1, none⟩) (by show w2.heap.size < (w2.heap.push _).size; simp)).trans (cell_new _ _ _ 1 _ rfl)
      have hb24 : Below w2.heap.size w2 w4 := ((Below.refl _ _).alloc (Nat.le_refl _) _).trans (hb4.mono (by show w2.heap.size ≤ (w2.heap.push _).size; simp))
      have hC4 := hC2.below hb24 (by have := hb2.size; omega)
      have hB4 : Below W.heap.size W w4 := hB2.trans (hb24.mono hB2.size)
      have r0 := hC4.1 0 (by omega)
      have r1 := hC4.1 1 (by omega)
      have f0 := hC4.2 0
      have f1 := hC4.2 1
      have HC4 := Lib.hid hC4
      have HB4 := Lib.hid hB4
      have HHAS : Hid (r = if Maps.has D (.string x) then (d, 203) else (d, 0)) := by rw [Hid, HR.out, hg]; simp only; rw [hk]
      have HXK : Hid (∃ nd m D, g d = some nd ∧ nd.kids = some (m, D) ∧ Maps.has D (.string x) = Maps.has D (.string x)) := ⟨nd, m, D, hg, hk, rfl⟩
      have HKD : Hid (g d = some nd ∧ nd.kids = some (m, D)) := ⟨hg, hk⟩
      clear hb4 hb24 hC4 hB4 hC2 hB2 hG2 HXK hg hk
      generalize thereV D x = tv at *
      cases hh : Maps.has D (.string x) with
      | true =>
        have HR2 : Hid (r = (d, 203)) := by rw [Hid, HHAS.out, hh]; rfl
        go_wp2_with (first
          | (go_at_call 130; refine (HM.out _ _ _).mono ?_; rintro e w5 ⟨rfl, rfl⟩))
        refine ⟨rfl, ?_⟩
        unfold FreshR
        rw [HR2.out, HX.out]
        exact ⟨rfl, (fun h => by cases h), HB4.out⟩
      | false =>
        have HR2 : Hid (r = (d, 0)) := by rw [Hid, HHAS.out, hh]; rfl
        have HH := Lib.hid hh
        clear hh
        go_wp2_with (first
          | (go_at_call 130; refine (HM.out _ _ _).mono ?_; rintro e w5 ⟨rfl, rfl⟩))
        have hBF : Below W.heap.size W ((w5.setCell ⟨W.heap.size, 0, none⟩ (.pointer (some ⟨d, 0, none⟩))).setCell ⟨W.heap.size, 1, none⟩ (.string (ofBytes x))) := (HB4.out.setCell (Nat.le_refl _) _).setCell (Nat.le_refl _) _
        have hCF : CellsAt ((w5.setCell ⟨W.heap.size, 0, none⟩ (.pointer (some ⟨d, 0, none⟩))).setCell ⟨W.heap.size, 1, none⟩ (.string (ofBytes x))) W.heap.size 2 (fun i => match i with | 0 => .pointer (some ⟨d, 0, none⟩) | _ => .string (ofBytes x)) :=
          cells_congr ((HC4.out.upd (i := 0) (v := .pointer (some ⟨d, 0, none⟩)) (by omega)).upd (i := 1) (v := .string (ofBytes x)) (by omega)) fun i hi => match i, hi with | 0, _ => rfl | 1, _ => rfl
        generalize ((w5.setCell ⟨W.heap.size, 0, none⟩ (.pointer (some ⟨d, 0, none⟩))).setCell ⟨W.heap.size, 1, none⟩ (.string (ofBytes x))) = wE at *
        have z0 := hCF.1 0 (by omega)
        have z1 := hCF.1 1 (by omega)
        refine bodyPost_ret (v := .agg #[.pointer (some ⟨d, 0, none⟩), .string (ofBytes x)]) (by simp [results, Tryz.results138, go_sem, z0, z1]) rfl ?_
        unfold FreshR
        rw [HR2.out, HX.out]
        exact ⟨rfl, fun _ => ⟨nd, m, D, HKD.out.1, HKD.out.2, HH.out⟩, hBF⟩
    · have HR2 : Hid (r = (d, z)) := by
        rw [Hid, HR.out]
        cases z with
        | zero => exact absurd rfl hz2
        | succ n => rfl
      rw [if_neg hz2] at HSP0
      go_enter Tryz.func138, Tryz.ntmps138
      go_wp2_with (first
        | (go_at_call 130; refine (HM.out _ _ _).mono ?_; rintro e w2 ⟨rfl, rfl⟩)
        | (go_at_call 142; rw [HW0.out]; refine HSP0.out.mono ?_; rintro e w2 ⟨rfl, hk2, hb2⟩; have HK2 := Lib.hid hk2; clear hk2))
      refine ⟨rfl, ?_⟩
      unfold FreshR
      rw [HR2.out, HX.out]
      exact ⟨(if_neg hz2).symm, (fun h => absurd h hz2), HB0.out.trans (hb2.mono (by omega))⟩
end Go.Proofs.YtibpagmpdgflmaaGreatDoor

namespace Go.Proofs.YtibpagmpdgflmaaGreatDoor
open Go.RowKit Go.Maps Go.WideMaps
attribute [local go_sem] Oper.semAt_some

theorem TrAt.add {W : World} {T root N n : Nat} {g : GrP} {nd : NodeP} (h : TrAt W T root N g) (hn : NodeAt W n nd) (h0 : g n = none) (hT : T ≠ n) (hk : ∀ m D, nd.kids = some (m, D) → D = .map [] ∧ ¬ inG g m ∧ m ≠ T) (hb : nd.bytes.length ≤ 448 ∧ nd.links ≤ 200) : TrAt W T root N (updG g n nd) := by
  refine ⟨h.tc, h.nodes.add hn h0 (fun m D s hm => by rw [(hk m D hm).1]; rfl), h.inj.add (fun m D hm => (hk m D hm).2.1), updG_is _ h.rt, fun e => ?_, h.few.upd (Nat.le_refl _) (fun m D hm => by rw [(hk m D hm).1]; exact Nat.zero_le _) hb⟩
  rcases inG_add e with e | e | ⟨D, e⟩
  · exact h.out e
  · exact hT e
  · exact (hk _ _ e).2.2 rfl
theorem TrAt.put {W W' : World} {T root N d m b M : Nat} {g : GrP} {nd : NodeP} {D : DataW Value} {s : List UInt8} (h : TrAt W T root N g) (hd : g d = some nd) (hk : nd.kids = some (m, D)) (hb : (g b).isSome)
    (ho : W'.ownsMap Tryz.prog 9 heldV m M (D.put (.string s) (.held (.pointer (some ⟨b, 0, none⟩))))) (hg : W.grownBy W' (some m)) :
    TrAt W' T root (N + 1) (updG g d { nd with kids := some (m, D.put (.string s) (.held (.pointer (some ⟨b, 0, none⟩)))) }) := by
  have hkk : ({ nd with kids := some (m, D.put (.string s) (.held (.pointer (some ⟨b, 0, none⟩)))) } : NodeP).kids.map (·.1) = nd.kids.map (·.1) := by rw [hk]; rfl
  have hmT : m ≠ T := fun e => h.out (.inr ⟨d, nd, D, hd, by rw [hk, e]⟩)
  have hti := ((h.nodes.node d nd hd).own m D hk).tidy keyedS
  refine ⟨(World.cell?_of_block (w := W) (hg.block T h.lt (fun e => hmT (by injection e with e; exact e.symm)))).trans h.tc, h.nodes.put h.inj hd hk hb ho hg, h.inj.upd hd hkk, updG_is _ h.rt, fun e => h.out (inG_upd hd hkk e), h.few.upd (Nat.le_succ _) (fun m2 D2 hm2 => ?_) (h.few.2 d nd hd)⟩
  cases hm2
  rw [size_put hti]
  have := h.few.1 d nd m D hd hk
  split <;> omega
set_option maxRecDepth 100000 in
set_option maxHeartbeats 4000000 in
theorem tput_any (d m b : Nat) (nd : NodeP) (D : DataW Value) (x : List UInt8) (W : World) (h : NodeAt W d nd) (hk : nd.kids = some (m, D)) (hx : x.length ≤ 100000) (hsz : Maps.size D ≤ 1000000) :
    Calls Tryz.prog 139 #[.agg #[.pointer (some ⟨d, 0, none⟩), .string (ofBytes x)], .pointer (some ⟨b, 0, none⟩)] W fun e W' => e = .returned (.tuple #[]) ∧
      ∃ W1, Below W.heap.size W W1 ∧ W1.grownBy W' (some m) ∧ W'.ownsMap Tryz.prog 9 heldV m (Maps.size D + 1) (D.put (.string x) (.held (.pointer (some ⟨b, 0, none⟩)))) := by
  have hmx : Tryz.prog.follows .mixedOrders = true := by kernel_rfl
  obtain ⟨W0, hW0⟩ : ∃ W0, W.alloc (.cells #[.pointer (some ⟨d, 0, none⟩), .string (ofBytes x)] 188) = W0 := ⟨_, rfl⟩
  have hb0 : Below W.heap.size W W0 := by rw [← hW0]; exact (Below.refl _ _).alloc (Nat.le_refl _) _
  have p0 : W0.cell? ⟨W.heap.size, 0, none⟩ = some (.pointer (some ⟨d, 0, none⟩)) := by rw [← hW0]; exact cell_new _ _ _ 0 _ rfl
  have p1 : W0.cell? ⟨W.heap.size, 1, none⟩ = some (.string (ofBytes x)) := by rw [← hW0]; exact cell_new _ _ _ 1 _ rfl
  have h0 := h.below hb0
  have c0 := h0.kidc
  rw [hk] at c0
  have c0' : W0.cell? ⟨d, 0, none⟩ = some (.map (some m)) := c0
  have hds : (ofBytes x).data.toList = x := by simp [ofBytes]
  have hown : W0.drew.ownsMap Tryz.prog 9 heldV m (Maps.size D) D := h0.own m D hk
  obtain ⟨W1, hrun, ho, ht⟩ := hown.store keyedS Tryz.underlyingNames (by unfold maxLen; omega) (keyS (s := ofBytes x) (by show x.toArray.size ≤ maxLen; unfold maxLen; simp; omega)) (val := .pointer (some ⟨b, 0, none⟩)) (d := .held (.pointer (some ⟨b, 0, none⟩))) (ps := []) rfl
  rw [hds] at ho
  have HB0 := Lib.hid hb0
  have HO := Lib.hid ho
  have HT := Lib.hid ht.grown
  have HW0 := Lib.hid hW0
  clear hW0 hb0 h h0 c0 hown ho ht hds
  go_enter Tryz.func139, Tryz.ntmps139
  go_wp2_with fail
  rw [HW0.out]
  have hS0 : W0.drew.cell? ⟨W.heap.size, 0, none⟩ = some (.pointer (some ⟨d, 0, none⟩)) ∧ W0.drew.cell? ⟨W.heap.size, 1, none⟩ = some (.string (ofBytes x)) ∧ W0.drew.cell? ⟨d, 0, none⟩ = some (.map (some m)) := ⟨p0, p1, c0'⟩
  refine (wpIn_wide (n := 10)).1 ?_
  refine whichever_region (fun w => w.cell? ⟨W.heap.size, 0, none⟩ = some (.pointer (some ⟨d, 0, none⟩)) ∧ w.cell? ⟨W.heap.size, 1, none⟩ = some (.string (ofBytes x)) ∧ w.cell? ⟨d, 0, none⟩ = some (.map (some m))) [8] hmx ?_
  refine whichever_take 0 (.pointer (some ⟨W.heap.size, 0, none⟩)) [8] rfl (by kernel_rfl) (fun _ _ _ h => h) hS0 (by rfl) (fun w hw => ?_) ?_
  · constructor <;> go_simp
  refine whichever_take 1 (.pointer (some ⟨d, 0, none⟩)) [8] rfl (by kernel_rfl) (fun _ _ _ h => h) hS0 (by rfl) (fun w hw => ?_) ?_
  · have hw1 := hw.1
    constructor <;> go_simp
  refine whichever_take 2 (.pointer (some ⟨d, 0, none⟩)) [8] rfl (by kernel_rfl) (fun _ _ _ h => h) hS0 (by rfl) (fun w hw => ?_) ?_
  · constructor <;> go_simp
  refine whichever_take 3 (.pointer (some ⟨d, 0, none⟩)) [8] rfl (by kernel_rfl) (fun _ _ _ h => h) hS0 (by rfl) (fun w hw => ?_) ?_
  · constructor <;> go_simp
  refine whichever_take 4 (.map (some m)) [8] rfl (by kernel_rfl) (fun _ _ _ h => h) hS0 (by rfl) (fun w hw => ?_) ?_
  · have hw1 := hw.2.2
    constructor <;> go_simp
  refine whichever_take 5 (.pointer (some ⟨W.heap.size, 1, none⟩)) [8] rfl (by kernel_rfl) (fun _ _ _ h => h) hS0 (by rfl) (fun w hw => ?_) ?_
  · constructor <;> go_simp
  refine whichever_take 6 (.string (ofBytes x)) [8] rfl (by kernel_rfl) (fun _ _ _ h => h) hS0 (by rfl) (fun w hw => ?_) ?_
  · have hw1 := hw.2.1
    constructor <;> go_simp
  refine whichever_take 7 (.pointer (some ⟨b, 0, none⟩)) [8] rfl (by kernel_rfl) (fun _ _ _ h => h) hS0 (by rfl) (fun w hw => ?_) ?_
  · constructor <;> go_simp
  refine whichever_next 8 rfl (by kernel_rfl) (by rfl) ?_
  go_simp
  refine whichever_end (by kernel_rfl) ?_
  go_end0
  exact ⟨rfl, W0.drew, HB0.out.drew, HT.out, HO.out⟩
/-- Make's error. -/
def makeE (g : GrP) (root : Nat) (k : Int) (s : List UInt8) : Int := if k ≠ 1 ∧ k ≠ 2 then 2 else ((freshE g root s).2 : Nat)
/-- What Make makes of a tree. -/
def MadeG (g : GrP) (root : Nat) (k : Int) (s : List UInt8) (c : Int) (g' : GrP) : Prop :=
  c = makeE g root k s ∧ (c ≠ 0 → g' = g) ∧ (c = 0 → ∃ n kids d nd m D, freshE g root s = (d, 0) ∧ g d = some nd ∧ nd.kids = some (m, D) ∧ Maps.has D (.string (lastL (readP s).2)) = false ∧ g n = none ∧ n ≠ d ∧
    (kids = if k = 2 then some (n + 1, .map []) else none) ∧ g' = updG (updG g n ⟨kids, [], 1⟩) d { nd with kids := some (m, D.put (.string (lastL (readP s).2)) (.held (.pointer (some ⟨n, 0, none⟩)))) })
end Go.Proofs.YtibpagmpdgflmaaGreatDoor

namespace Go.Proofs.YtibpagmpdgflmaaGreatDoor
open Go.RowKit Go.Maps Go.WideMaps
attribute [local go_sem] Oper.semAt_some

theorem unitOr_zero : unitOr 0 = .returned (.tuple #[]) := rfl
theorem unitOr_err {c : Int} (h : c ≠ 0) : unitOr c = .panicked [errE c] := if_neg h
/-- What a change of a tree leaves, by its error. -/
def ChangeT (T root N : Nat) (g : GrP) (Rel : Int → GrP → Prop) (W : World) (e : Ending) (W' : World) : Prop :=
  ∃ c g', e = unitOr c ∧ Turn T root (N + 1) W.heap.size g g' W W' ∧ Rel c g'
theorem inG_in {g : GrP} {d m : Nat} {nd : NodeP} {D : DataW Value} (h1 : g d = some nd) (h2 : nd.kids = some (m, D)) : inG g m := .inr ⟨d, nd, D, h1, h2⟩
/-- A new node is hung. -/
theorem Turn.hang {T root N n d m M : Nat} {g : GrP} {nw nd : NodeP} {D : DataW Value} {s : List UInt8} {W w4 W1 W' : World} (h : TrAt W T root N g) (hb : Below W.heap.size W w4) (hn : NodeAt w4 n nw) (hW : W.heap.size ≤ n) (hk : ∀ m D, nw.kids = some (m, D) → D = .map [] ∧ W.heap.size ≤ m) (hs : nw.bytes.length ≤ 448 ∧ nw.links ≤ 200)
    (hd : g d = some nd) (hkd : nd.kids = some (m, D)) (hb1 : Below w4.heap.size w4 W1) (hg : W1.grownBy W' (some m)) (ho : W'.ownsMap Tryz.prog 9 heldV m M (D.put (.string s) (.held (.pointer (some ⟨n, 0, none⟩))))) :
    Turn T root (N + 1) W.heap.size g (updG (updG g n nw) d { nd with kids := some (m, D.put (.string s) (.held (.pointer (some ⟨n, 0, none⟩)))) }) W W' := by
  have hn0 : g n = none := h.nodes.fresh hW
  have hne : d ≠ n := fun e => by rw [e, hn0] at hd; cases hd
  have ht4 : TrAt w4 T root N g := h.below hb
  have hta : TrAt w4 T root N (updG g n nw) := ht4.add hn hn0 (fun e => by have := h.lt; omega) (fun m D hm => ⟨(hk m D hm).1, fun e => by have := h.nodes.lt e; have := (hk m D hm).2; omega, fun e => by have := h.lt; have := (hk m D hm).2; omega⟩) hs
  have hta1 := hta.below hb1
  have hd' : updG g n nw d = some nd := (updG_other hne).trans hd
  refine ⟨hta1.put hd' hkd (by rw [updG_same]; rfl) ho hg, ((Kept.of_below (hb.trans (hb1.mono hb.size))).grown hg (.inl (inG_in hd hkd))), fun b hb2 => ?_⟩
  have hb3 := inG_upd hd' (by rw [hkd]; rfl) hb2
  rcases inG_add hb3 with e | e | ⟨D2, e⟩
  · exact .inl e
  · exact .inr (by omega)
  · exact .inr (hk _ _ e).2
set_option maxRecDepth 100000 in
set_option maxHeartbeats 8000000 in
theorem make1_any (T root N Bk Bt Bs : Nat) (g : GrP) (k : Int) (s : ByteArray) (W : World) (hs : s.size < 4294967281) (h : TrAt W T root N g) (hN : N ≤ 1000000) (hz : (readP (bytesOf s)).1 = 0)
    (c0 : W.cell? ⟨Bk, 0, none⟩ = some (.int .i64 k)) (c1 : W.cell? ⟨Bt, 0, none⟩ = some (.pointer (some ⟨T, 0, none⟩))) (c2 : W.cell? ⟨Bs, 0, none⟩ = some (.string s)) :
    Calls Tryz.prog 137 #[.pointer (some ⟨Bk, 0, none⟩), .pointer (some ⟨Bt, 0, none⟩), .pointer (some ⟨Bs, 0, none⟩)] W (ChangeT T root N g (MadeG g root k (bytesOf s)) W) := by
  have hmm := @run_makeMap Tryz.prog
  have HM := Lib.hid tmust_any
  have b0 := World.block_lt_of_cell? W ⟨Bk, 0, none⟩ c0
  have b1 := World.block_lt_of_cell? W ⟨Bt, 0, none⟩ c1
  have b2 := World.block_lt_of_cell? W ⟨Bs, 0, none⟩ c2
  have HTR := Lib.hid h
  by_cases hk1 : k = 1
  · subst hk1
    obtain ⟨w3, hw3⟩ : ∃ w3, W.alloc (.cells #[.map none, .slice none 0 0, .int .i64 1] 112) = w3 := ⟨_, rfl⟩
    have hb3 : Below W.heap.size W w3 := by rw [← hw3]; exact (Below.refl _ _).alloc (Nat.le_refl _) _
    have hs3 : w3.heap.size = W.heap.size + 1 := by rw [← hw3]; simp
    have hC : CellsAt w3 W.heap.size 3 (fun i => match i with | 0 => .map none | 1 => .slice none 0 0 | _ => .int .i64 1) := by
      rw [← hw3]; exact cellsAt_new _ _ _ _ _ fun i hi => match i, hi with | 0, _ => rfl | 1, _ => rfl | 2, _ => rfl
    have hND : NodeAt w3 W.heap.size ⟨none, [], 1⟩ := ⟨by omega, hC.1 0 (by omega), ⟨none, 0, 0, hC.1 1 (by omega), rfl, Nat.le_refl _, by simp [maxLen], RowAt.nil, fun h => absurd h (by omega), .inl rfl⟩, hC.1 2 (by omega), hC.2, fun m D hm => by cases hm⟩
    have HF := Lib.hid (tfresh_any g T root s w3 hs (h.nodes.below hb3) h.rt ((h.below hb3).tc) hz)
    unfold FreshR at HF
    have d0 : w3.cell? ⟨Bk, 0, none⟩ = some (.int .i64 1) := (hb3.cell (p := ⟨Bk, 0, none⟩) b0).trans c0
    have d1 : w3.cell? ⟨Bt, 0, none⟩ = some (.pointer (some ⟨T, 0, none⟩)) := (hb3.cell (p := ⟨Bt, 0, none⟩) b1).trans c1
    have d2 : w3.cell? ⟨Bs, 0, none⟩ = some (.string s) := (hb3.cell (p := ⟨Bs, 0, none⟩) b2).trans c2
    have HE : Hid (makeE g root 1 (bytesOf s) = ((freshE g root (bytesOf s)).2 : Nat)) := by rw [Hid]; unfold makeE; rw [if_neg (by decide)]
    rcases hfr : freshE g root (bytesOf s) with ⟨d, z⟩
    rw [hfr] at HF HE
    have HFR := Lib.hid hfr
    simp only at HF
    have HND := Lib.hid hND
    have HB3 := Lib.hid hb3
    clear hC hND h hfr
    by_cases hz2 : z = 0
    · subst hz2
      simp only [if_true] at HF
      obtain ⟨x, hx⟩ : ∃ x, lastL (readP (bytesOf s)).2 = x := ⟨_, rfl⟩
      have hxl : x.length ≤ 100000 := by rw [← hx]; exact lastL_le _
      have HX := Lib.hid hx
      rw [hx] at HF
      clear hx
      go_enter Tryz.func137, Tryz.ntmps137
      go_wp2_with (first
        | (go_at_call 130; refine (HM.out _ _ _).mono ?_; rintro e w2 ⟨rfl, rfl⟩)
        | (go_at_call 138; refine HF.out.mono ?_; rintro e w4 ⟨rfl, hk4, hb4⟩; have HK4 := Lib.hid hk4; clear hk4))
      obtain ⟨nd, m, D, hg, hk, hh⟩ := HK4.out trivial
      refine (tput_any d m w2.heap.size nd D x w4 (((HTR.out.nodes.below HB3.out).below hb4).node d nd hg) hk hxl (Nat.le_trans (HTR.out.few.1 d nd m D hg hk) hN)).mono ?_
      rintro e w5 ⟨rfl, W1, hb5, hg5, ho5⟩
      have HALL : Hid (ChangeT T root N g (MadeG g root 1 (bytesOf s)) w2 (.returned (.tuple #[])) w5) := by
        refine ⟨0, _, rfl, Turn.hang HTR.out (HB3.out.trans (hb4.mono (by omega))) (HND.out.below hb4) (Nat.le_refl _) (fun m D hm => by cases hm) ⟨by simp, by simp⟩ hg hk hb5 hg5 ho5, HE.out.symm, fun h => absurd rfl h, fun _ => ⟨w2.heap.size, none, d, nd, m, D, HFR.out, hg, hk, by rw [HX.out]; exact hh, HTR.out.nodes.fresh (Nat.le_refl _), fun e => ?_, rfl, by rw [HX.out]⟩⟩
        have := HTR.out.nodes.lt (.inl (by rw [hg]; rfl))
        omega
      clear hb5 hg5 ho5 hg hk hh HK4 hb4
      go_wp2_with fail
      go_end0
      exact HALL.out
    · rw [if_neg hz2] at HF
      go_enter Tryz.func137, Tryz.ntmps137
      go_wp2_with (first
        | (go_at_call 130; refine (HM.out _ _ _).mono ?_; rintro e w2 ⟨rfl, rfl⟩)
        | (go_at_call 138; refine HF.out.mono ?_; rintro e w4 ⟨rfl, hk4, hb4⟩; have HK4 := Lib.hid hk4; clear hk4))
      have HZ : Hid (ChangeT T root N g (MadeG g root 1 (bytesOf s)) w2 (.panicked [errE (z : Nat)]) w4) := by
        have hz3 : ((z : Nat) : Int) ≠ 0 := by omega
        exact ⟨z, g, (unitOr_err hz3).symm, Turn.same HTR.out (Nat.le_succ _) (HB3.out.trans (hb4.mono (by omega))), HE.out.symm, fun _ => rfl, fun h => absurd h hz3⟩
      exact ⟨rfl, HZ.out⟩
  · by_cases hk2 : k = 2
    · subst hk2
      obtain ⟨wA, hwA⟩ : ∃ wA, W.alloc (.cells #[.map none, .slice none 0 0, .int .i64 1] 112) = wA := ⟨_, rfl⟩
      obtain ⟨wM, hwM⟩ : ∃ wM, wA.alloc (.map #[] 0) = wM := ⟨_, rfl⟩
      obtain ⟨w3, hw3⟩ : ∃ w3, wM.setCell ⟨W.heap.size, 0, none⟩ (.map (some wA.heap.size)) = w3 := ⟨_, rfl⟩
      have hsA : wA.heap.size = W.heap.size + 1 := by rw [← hwA]; simp
      have hsM : wM.heap.size = W.heap.size + 2 := by rw [← hwM]; simp; omega
      have hbA : Below W.heap.size W wA := by rw [← hwA]; exact (Below.refl _ _).alloc (Nat.le_refl _) _
      have hbAM : Below wA.heap.size wA wM := by rw [← hwM]; exact (Below.refl _ _).alloc (Nat.le_refl _) _
      have hbM : Below W.heap.size W wM := hbA.trans (hbAM.mono (by omega))
      have hb3 : Below W.heap.size W w3 := by rw [← hw3]; exact hbM.setCell (Nat.le_refl _) _
      have hs3 : w3.heap.size = W.heap.size + 2 := by rw [← hw3]; simpa [World.setCell] using hsM
      have hCA : CellsAt wA W.heap.size 3 (fun i => match i with | 0 => .map none | 1 => .slice none 0 0 | _ => .int .i64 1) := by
        rw [← hwA]; exact cellsAt_new _ _ _ _ _ fun i hi => match i, hi with | 0, _ => rfl | 1, _ => rfl | 2, _ => rfl
      have hCM := hCA.below hbAM (by omega)
      have hC : CellsAt w3 W.heap.size 3 (fun i => match i with | 0 => .map (some (W.heap.size + 1)) | 1 => .slice none 0 0 | _ => .int .i64 1) := by
        rw [← hw3, hsA]
        exact cells_congr (hCM.upd (i := 0) (v := .map (some (W.heap.size + 1))) (by omega)) fun i hi => match i, hi with | 0, _ => rfl | 1, _ => rfl | 2, _ => rfl
      have hown : w3.ownsMap Tryz.prog 9 heldV (W.heap.size + 1) 0 (.map []) := by
        have h1 : wM.ownsMap Tryz.prog 9 heldV wA.heap.size 0 (.map []) := by rw [← hwM]; exact World.ownsMap_made wA _ _ _
        rw [hsA] at h1
        rw [← hw3]
        exact h1.setCell (by show W.heap.size + 1 ≠ W.heap.size; omega) _
      have hND : NodeAt w3 W.heap.size ⟨some (W.heap.size + 1, .map []), [], 1⟩ := ⟨by omega, hC.1 0 (by omega), ⟨none, 0, 0, hC.1 1 (by omega), rfl, Nat.le_refl _, by simp [maxLen], RowAt.nil, fun h => absurd h (by omega), .inl rfl⟩, hC.1 2 (by omega), hC.2, fun m D hm => by cases hm; exact hown⟩
      have HF := Lib.hid (tfresh_any g T root s w3 hs (h.nodes.below hb3) h.rt ((h.below hb3).tc) hz)
      unfold FreshR at HF
      have dA : wA.cell? ⟨Bk, 0, none⟩ = some (.int .i64 2) := (hbA.cell (p := ⟨Bk, 0, none⟩) b0).trans c0
      have dM0 := hCM.1 0 (by omega)
      have dMf := hCM.2 0
      have d1 : w3.cell? ⟨Bt, 0, none⟩ = some (.pointer (some ⟨T, 0, none⟩)) := (hb3.cell (p := ⟨Bt, 0, none⟩) b1).trans c1
      have d2 : w3.cell? ⟨Bs, 0, none⟩ = some (.string s) := (hb3.cell (p := ⟨Bs, 0, none⟩) b2).trans c2
      have HE : Hid (makeE g root 2 (bytesOf s) = ((freshE g root (bytesOf s)).2 : Nat)) := by rw [Hid]; unfold makeE; rw [if_neg (by decide)]
      rcases hfr : freshE g root (bytesOf s) with ⟨d, z⟩
      rw [hfr] at HF HE
      have HFR := Lib.hid hfr
      simp only at HF
      have HND := Lib.hid hND
      have HB3 := Lib.hid hb3
      have HS3 := Lib.hid hs3
      clear hC hND h hfr hCA hCM hown hsA hsM hs3 hbA hbAM hbM
      by_cases hz2 : z = 0
      · subst hz2
        simp only [if_true] at HF
        obtain ⟨x, hx⟩ : ∃ x, lastL (readP (bytesOf s)).2 = x := ⟨_, rfl⟩
        have hxl : x.length ≤ 100000 := by rw [← hx]; exact lastL_le _
        have HX := Lib.hid hx
        rw [hx] at HF
        clear hx
        go_enter Tryz.func137, Tryz.ntmps137
        go_wp2_with (first
          | (go_at_call 130; refine (HM.out _ _ _).mono ?_; rintro e w2 ⟨rfl, rfl⟩)
          | (go_at_call 138; refine HF.out.mono ?_; rintro e w4 ⟨rfl, hk4, hb4⟩; have HK4 := Lib.hid hk4; clear hk4))
        obtain ⟨nd, m, D, hg, hk, hh⟩ := HK4.out trivial
        refine (tput_any d m w2.heap.size nd D x w4 (((HTR.out.nodes.below HB3.out).below hb4).node d nd hg) hk hxl (Nat.le_trans (HTR.out.few.1 d nd m D hg hk) hN)).mono ?_
        rintro e w5 ⟨rfl, W1, hb5, hg5, ho5⟩
        have HALL : Hid (ChangeT T root N g (MadeG g root 2 (bytesOf s)) w2 (.returned (.tuple #[])) w5) := by
          refine ⟨0, _, rfl, Turn.hang HTR.out (HB3.out.trans (hb4.mono (by have := HS3.out; omega))) (HND.out.below hb4) (Nat.le_refl _) (fun m D hm => by cases hm; exact ⟨rfl, by omega⟩) ⟨by simp, by simp⟩ hg hk hb5 hg5 ho5, HE.out.symm, fun h => absurd rfl h, fun _ => ⟨w2.heap.size, some (w2.heap.size + 1, .map []), d, nd, m, D, HFR.out, hg, hk, by rw [HX.out]; exact hh, HTR.out.nodes.fresh (Nat.le_refl _), fun e => ?_, rfl, by rw [HX.out]⟩⟩
          have := HTR.out.nodes.lt (.inl (by rw [hg]; rfl))
          omega
        clear hb5 hg5 ho5 hg hk hh HK4 hb4
        go_wp2_with fail
        go_end0
        exact HALL.out
      · rw [if_neg hz2] at HF
        go_enter Tryz.func137, Tryz.ntmps137
        go_wp2_with (first
          | (go_at_call 130; refine (HM.out _ _ _).mono ?_; rintro e w2 ⟨rfl, rfl⟩)
          | (go_at_call 138; refine HF.out.mono ?_; rintro e w4 ⟨rfl, hk4, hb4⟩; have HK4 := Lib.hid hk4; clear hk4))
        have HZ : Hid (ChangeT T root N g (MadeG g root 2 (bytesOf s)) w2 (.panicked [errE (z : Nat)]) w4) := by
          have hz3 : ((z : Nat) : Int) ≠ 0 := by omega
          exact ⟨z, g, (unitOr_err hz3).symm, Turn.same HTR.out (Nat.le_succ _) (HB3.out.trans (hb4.mono (by have := HS3.out; omega))), HE.out.symm, fun _ => rfl, fun h => absurd h hz3⟩
        exact ⟨rfl, HZ.out⟩
    · have HZ : Hid (ChangeT T root N g (MadeG g root k (bytesOf s)) W (.panicked [errE 2]) W) :=
        ⟨2, g, rfl, Turn.same HTR.out (Nat.le_succ _) (Below.refl _ _), by unfold makeE; rw [if_pos ⟨hk1, hk2⟩], fun _ => rfl, fun h => by cases h⟩
      have q1 : (k == 1) = false := by rw [beq_eq_false_iff_ne]; exact hk1
      have q2 : (k == 2) = false := by rw [beq_eq_false_iff_ne]; exact hk2
      go_enter Tryz.func137, Tryz.ntmps137
      go_wp2_with (first
        | (go_at_call 130; refine (HM.out _ _ _).mono ?_; rintro e w2 ⟨rfl, rfl⟩))
      exact ⟨rfl, HZ.out⟩
/-- What a call tells that changes a tree. -/
def ToldT (T root N : Nat) (g : GrP) (Rel : Int → GrP → Prop) (W : World) (e : Ending) (W' : World) : Prop := ∃ c g', e = .returned (.int .i64 c) ∧ Turn T root (N + 1) W.heap.size g g' W W' ∧ Rel c g'
/-- .. of a path that must be one. -/
def PathT (s : List UInt8) (g : GrP) (Rel : Int → GrP → Prop) (c : Int) (g' : GrP) : Prop := if (readP s).1 = 0 then Rel c g' else c = (readP s).1 ∧ g' = g
theorem PathT.good {s : List UInt8} {g g' : GrP} {Rel : Int → GrP → Prop} {c : Int} (hz : (readP s).1 = 0) (h : Rel c g') : PathT s g Rel c g' := by unfold PathT; rw [if_pos hz]; exact h
theorem PathT.bad {s : List UInt8} {g : GrP} {Rel : Int → GrP → Prop} (hz : (readP s).1 ≠ 0) : PathT s g Rel (readP s).1 g := by unfold PathT; rw [if_neg hz]; exact ⟨rfl, rfl⟩
theorem tdone_tree (fn : FuncId) (caps : Array Value) (T root N : Nat) (g : GrP) (A : Option Addr) (ln lc : Nat) (z : Int) (W : World) (Rel : Int → GrP → Prop) (h : TrAt W T root N g)
    (HREAD : ∀ w, Below W.heap.size W w → Calls Tryz.prog 161 #[.pointer (some ⟨T, 0, none⟩), .slice A ln lc] w fun e w' => e = unitOr z ∧ Below w.heap.size w w')
    (hent : ∀ w, (callFunc fn caps).run Tryz.prog w = .ok (.enter fn caps) w)
    (HDO : z = 0 → ∀ w, Below W.heap.size W w → TrAt w T root N g → Calls Tryz.prog fn caps w (ChangeT T root N g Rel w)) (hbad : z ≠ 0 → Rel z g) :
    Calls Tryz.prog 136 #[.pointer (some ⟨T, 0, none⟩), .func (.func fn) #[] caps, .slice A ln lc] W (ToldT T root N g Rel W) := by
  refine (tdone_any fn caps T A ln lc z W (fun c w => ∃ g', Turn T root (N + 1) (W.heap.size + 1) g g' W w ∧ Rel c g') HREAD hent (fun hz w hb hs => ?_) (fun hz w hb => ⟨g, Turn.same h (Nat.le_succ _) hb, hbad hz⟩) (fun c w v hq hc => ?_)).mono ?_
  · refine (HDO hz w hb (h.below hb)).mono ?_
    rintro e w' ⟨c, g', rfl, ht, hr⟩
    exact ⟨c, rfl, ⟨g', (ht.base_ hs).front hb, hr⟩, ht.kept.block _ (by omega) (fun e => by have := h.nodes.lt e; omega)⟩
  · obtain ⟨g', ht, hr⟩ := hq
    exact ⟨g', ht.set (Nat.lt_succ_self _) (Nat.le_refl _) h.nodes h.lt hc (i64_not _), hr⟩
  · rintro e w' ⟨c, rfl, g', ht, hr⟩
    exact ⟨c, g', rfl, ht.base_ (Nat.le_succ _), hr⟩
theorem read_unit {T root b : Nat} {s : ByteArray} {W : World} (hs : s.size < 4294967281) (hT : W.cell? ⟨T, 0, none⟩ = some (.pointer (some ⟨root, 0, none⟩))) (hb : W.cell? ⟨b, 0, none⟩ = some (.string s)) :
    Calls Tryz.prog 161 #[.pointer (some ⟨T, 0, none⟩), .slice (some ⟨b, 0, none⟩) 1 1] W fun e W' => e = unitOr (readP (bytesOf s)).1 ∧ Below W.heap.size W W' := tread_any T root b s W hs hT hb
set_option maxRecDepth 100000 in
set_option maxHeartbeats 8000000 in
theorem tmake_any (T root N : Nat) (g : GrP) (k : Int) (s : ByteArray) (W : World) (hs : s.size < 4294967281) (h : TrAt W T root N g) (hN : N ≤ 1000000) :
    Calls Tryz.prog 93 #[.pointer (some ⟨T, 0, none⟩), .string s, .int .i64 k] W (ToldT T root N g (PathT (bytesOf s) g (MadeG g root k (bytesOf s))) W) := by
  have hmf : ∀ (fn : Fn) (first cap : Array Value) (w : World), (Instr.makeFunc fn first cap).run Tryz.prog w = .ok (.func fn first cap) w := fun _ _ _ _ => rfl
  obtain ⟨w1, hw1⟩ : ∃ w1, W.alloc (.cells #[.pointer (some ⟨T, 0, none⟩)] 55) = w1 := ⟨_, rfl⟩
  obtain ⟨w2, hw2⟩ : ∃ w2, w1.alloc (.cells #[.string s] 9) = w2 := ⟨_, rfl⟩
  obtain ⟨w3, hw3⟩ : ∃ w3, w2.alloc (.cells #[.int .i64 k] 23) = w3 := ⟨_, rfl⟩
  obtain ⟨w4, hw4⟩ : ∃ w4, w3.alloc (.cells #[.string s] 9) = w4 := ⟨_, rfl⟩
  have s1 : w1.heap.size = W.heap.size + 1 := by rw [← hw1]; simp
  have s2 : w2.heap.size = W.heap.size + 2 := by rw [← hw2]; simp; omega
  have s3 : w3.heap.size = W.heap.size + 3 := by rw [← hw3]; simp; omega
  have b1 : Below W.heap.size W w1 := by rw [← hw1]; exact (Below.refl _ _).alloc (Nat.le_refl _) _
  have b2 : Below w1.heap.size w1 w2 := by rw [← hw2]; exact (Below.refl _ _).alloc (Nat.le_refl _) _
  have b3 : Below w2.heap.size w2 w3 := by rw [← hw3]; exact (Below.refl _ _).alloc (Nat.le_refl _) _
  have b4 : Below w3.heap.size w3 w4 := by rw [← hw4]; exact (Below.refl _ _).alloc (Nat.le_refl _) _
  have hB : Below W.heap.size W w4 := ((b1.trans (b2.mono (by omega))).trans (b3.mono (by omega))).trans (b4.mono (by omega))
  have p1 : w1.cell? ⟨W.heap.size, 0, none⟩ = some (.pointer (some ⟨T, 0, none⟩)) := by rw [← hw1]; exact cell_new _ _ _ 0 _ rfl
  have p2 : w2.cell? ⟨w1.heap.size, 0, none⟩ = some (.string s) := by rw [← hw2]; exact cell_new _ _ _ 0 _ rfl
  have p3 : w3.cell? ⟨w2.heap.size, 0, none⟩ = some (.int .i64 k) := by rw [← hw3]; exact cell_new _ _ _ 0 _ rfl
  have p4 : w4.cell? ⟨w3.heap.size, 0, none⟩ = some (.string s) := by rw [← hw4]; exact cell_new _ _ _ 0 _ rfl
  have q1 : w3.cell? ⟨W.heap.size, 0, none⟩ = some (.pointer (some ⟨T, 0, none⟩)) := (b3.cell (p := ⟨W.heap.size, 0, none⟩) (by show W.heap.size < _; omega)).trans ((b2.cell (p := ⟨W.heap.size, 0, none⟩) (by show W.heap.size < _; omega)).trans p1)
  have q2 : w3.cell? ⟨w1.heap.size, 0, none⟩ = some (.string s) := (b3.cell (p := ⟨w1.heap.size, 0, none⟩) (by show w1.heap.size < _; omega)).trans p2
  have ht4 := h.below hB
  have r1 : w4.cell? ⟨W.heap.size, 0, none⟩ = some (.pointer (some ⟨T, 0, none⟩)) := (b4.cell (p := ⟨W.heap.size, 0, none⟩) (by show W.heap.size < _; omega)).trans q1
  have r2 : w4.cell? ⟨w1.heap.size, 0, none⟩ = some (.string s) := (b4.cell (p := ⟨w1.heap.size, 0, none⟩) (by show w1.heap.size < _; omega)).trans q2
  have r3 : w4.cell? ⟨w2.heap.size, 0, none⟩ = some (.int .i64 k) := (b4.cell (p := ⟨w2.heap.size, 0, none⟩) (by show w2.heap.size < _; omega)).trans p3
  have HDN := Lib.hid (tdone_tree 137 #[.pointer (some ⟨w2.heap.size, 0, none⟩), .pointer (some ⟨W.heap.size, 0, none⟩), .pointer (some ⟨w1.heap.size, 0, none⟩)] T root N g (some ⟨w3.heap.size, 0, none⟩) 1 1 (readP (bytesOf s)).1 w4 (PathT (bytesOf s) g (MadeG g root k (bytesOf s))) ht4
    (fun w hb => read_unit hs (ht4.below hb).tc ((hb.cell (p := ⟨w3.heap.size, 0, none⟩) (World.block_lt_of_cell? w4 ⟨w3.heap.size, 0, none⟩ p4)).trans p4))
    (enters_of Tryz.func137 (by kernel_rfl) rfl _)
    (fun hz w hb ht => by
      refine (make1_any T root N w2.heap.size W.heap.size w1.heap.size g k s w hs ht hN hz ((hb.cell (p := ⟨w2.heap.size, 0, none⟩) (World.block_lt_of_cell? w4 ⟨w2.heap.size, 0, none⟩ r3)).trans r3) ((hb.cell (p := ⟨W.heap.size, 0, none⟩) (World.block_lt_of_cell? w4 ⟨W.heap.size, 0, none⟩ r1)).trans r1) ((hb.cell (p := ⟨w1.heap.size, 0, none⟩) (World.block_lt_of_cell? w4 ⟨w1.heap.size, 0, none⟩ r2)).trans r2)).mono ?_
      rintro e w' ⟨c, g', he, h1, h2⟩
      exact ⟨c, g', he, h1, PathT.good hz h2⟩)
    (fun hz => PathT.bad hz))
  have HB := Lib.hid hB
  clear s1 s2 s3 b1 b2 b3 b4 r1 r2 r3 p1 p2 p4 hB ht4 h
  go_enter Tryz.func93, Tryz.ntmps93
  go_wp2_with (first
    | (go_at_call 136; refine HDN.out.mono ?_; rintro e w5 ⟨c, g', rfl, ht5, hr5⟩; have HT5 := Lib.hid ht5; have HR5 := Lib.hid hr5; clear ht5 hr5))
  go_ret
  exact ⟨c, g', rfl, (HT5.out.front HB.out).base_ HB.out.size, HR5.out⟩
end Go.Proofs.YtibpagmpdgflmaaGreatDoor
