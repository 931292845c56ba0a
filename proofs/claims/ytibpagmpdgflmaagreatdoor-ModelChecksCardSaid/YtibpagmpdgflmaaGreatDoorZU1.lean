/- Maps whose elements are whatever values: laws of their reading and writing, at the operation. Contracts of model's acts: what Kinds do. Conditions: none. -/
import Derived.Test.YtibpagmpdgflmaaGreatDoorZK7
import Derived.Maps.OwnSet
import Derived.Maps.OwnOps
import Derived.Laws.EntriesVeiled
namespace Go.Proofs.YtibpagmpdgflmaaGreatDoor
open Go.RowKit Go.Maps

/-- How an element reads: as itself. -/
def heldV (v : Value) : Option (DataW Value × List MemPlace) := some (.held v, [])
section
variable {P : Program} {k : TypeId} {w : World} {b n : Nat} {D : DataW Value}
theorem held_ok {t e : TypeId} (h : w.ownsMap P k heldV b n D) (K : Keyed P k) (ht : P.underlying t = some (.map k e)) {z : Value} (hz : (zeroValue e).run P w = .ok z w) {key : Value} {kl : Lit} (hkey : keyOf P k key = some kl) :
    ∃ v, (Instr.lookup t (.map (some b)) key true).run P w = .ok (.tuple #[v, .bool (Maps.has D kl)]) w ∧ D.atKey kl (.held z) = .held v := by
  obtain ⟨v, ps, h1, h2⟩ := h.look_ok (R := heldV) K ht hz (zd := .held z) (zp := []) rfl hkey
  unfold heldV at h2
  injection h2 with h2
  injection h2 with h2 _
  exact ⟨v, h1, h2.symm⟩
theorem held_look {t e : TypeId} (h : w.ownsMap P k heldV b n D) (K : Keyed P k) (ht : P.underlying t = some (.map k e)) {z : Value} (hz : (zeroValue e).run P w = .ok z w) {key : Value} {kl : Lit} (hkey : keyOf P k key = some kl) :
    ∃ v, (Instr.lookup t (.map (some b)) key false).run P w = .ok v w ∧ D.atKey kl (.held z) = .held v := by
  obtain ⟨v, ps, h1, h2⟩ := h.lookup (R := heldV) K ht hz (zd := .held z) (zp := []) rfl hkey
  unfold heldV at h2
  injection h2 with h2
  injection h2 with h2 _
  exact ⟨v, h1, h2.symm⟩
/-- A map literal's entry, at the operation. -/
theorem wpList_insert_own (w : World) {ops : Array Oper} {rest : List Oper} {o : Oper} {a : Act} {Q : Exit → Act → World → Prop}
    (hg : o.guard = none) (m x v : Operand) (t : TypeId) (hop : o.op = Op.insert t m x v)
    (k e : TypeId) (K : Keyed P k) (ht : P.underlying t = some (.map k e)) (b n : Nat) (D : DataW Value)
    (hm : a.eval m = .map (some b)) (hown : w.ownsMap P k heldV b n D) (hn : n < maxLen) (key val : Value) (kl : Lit) (hx : a.eval x = key) (hv : a.eval v = val) (hkey : keyOf P k key = some kl)
    (hK : ∀ w', w'.ownsMap P k heldV b (n + 1) (D.put kl (.held val)) → w.grownBy w' (some b) → wpList P ops Q rest (a.put o.dst undef) w') :
    wpList P ops Q (o :: rest) a w := by
  refine wpList_plain hg fun K' hK' => ?_
  obtain ⟨w', hrun, r1, r2⟩ := hown.update K ht hn hkey (val := val) (d := .held val) (ps := []) rfl
  unfold Oper.wp
  simp [execOp, hop, hm, hx, hv, hrun, Result.andThen]
  exact hK' _ _ (hK w' r1 r2)
end
theorem cell_fresh (W : World) (cs : Array Value) (T : TypeId) (i : Nat) (v : Value) (h : cs[i]? = some v) : (W.alloc (.cells cs T)).cell? ⟨W.heap.size, i, none⟩ = some v := by
  rw [cell_of_row (W.alloc (.cells cs T)) W.heap.size i cs T (0, 0) (World.alloc_heap_new _ _)]; exact h
/-- What was below a block that was laid behind it. -/
theorem below_grown {n b : Nat} {W W1 W2 : World} (h : Below n W W1) (hg : W1.grownBy W2 (some b)) (hb : n ≤ b) (hn : n ≤ W.heap.size) : Below n W W2 :=
  h.grown hg (Nat.le_trans hn h.size) (fun j hj => by cases hj; exact hb)
end Go.Proofs.YtibpagmpdgflmaaGreatDoor

namespace Go.Proofs.YtibpagmpdgflmaaGreatDoor
open Go.RowKit Go.Maps

theorem Tryz.underlyingActs : Tryz.prog.underlying 101 = some (.map 30 75) := by kernel_rfl
theorem keyedK : Keyed Tryz.prog 30 := int_keyed (q := .i64) (by kernel_rfl)
theorem keyK {k : Int} (h : (Lit.int .i64 k).wf = true) : keyOf Tryz.prog 30 (.int .i64 k) = some (.int .i64 k) := keyOf_int_mk (by kernel_rfl) h
theorem cell_twoU (W : World) (c0 c1 : Array Value) (T0 T1 : TypeId) (v : Value) (h : c0[0]? = some v) : ((W.alloc (.cells c0 T0)).alloc (.cells c1 T1)).cell? ⟨W.heap.size, 0, none⟩ = some v :=
  (((Below.refl (W.heap.size + 1) (W.alloc (.cells c0 T0))).alloc (by simp) _).cell (p := ⟨W.heap.size, 0, none⟩) (Nat.lt_succ_self _)).trans (cell_fresh W c0 T0 0 v h)
theorem below_two (W : World) (o o' : Obj) : Below W.heap.size W ((W.alloc o).alloc o') := ((Below.refl _ W).alloc (Nat.le_refl _) _).alloc (by simp) _
theorem size_two (W : World) (o o' : Obj) : W.heap.size < ((W.alloc o).alloc o').heap.size := by simp; omega
/-- A closure over one box, that was laid behind W. -/
def ActOne (n : Nat) (two : Bool) (num : Value) (clo : FuncId) (inner : Value) (v : Value) (W : World) : Prop :=
  ∃ X, n ≤ X ∧ v = .agg #[.bool two, num, .func (.func clo) #[] #[.pointer (some ⟨X, 0, none⟩)]] ∧ W.cell? ⟨X, 0, none⟩ = some inner ∧ X < W.heap.size
/-- A closure over two boxes. -/
def ActTwo (n : Nat) (clo : FuncId) (in1 in2 : Value) (v : Value) (W : World) : Prop :=
  ∃ X Y, n ≤ X ∧ n ≤ Y ∧ v = .agg #[.bool false, .nilFunc, .func (.func clo) #[] #[.pointer (some ⟨X, 0, none⟩), .pointer (some ⟨Y, 0, none⟩)]] ∧ W.cell? ⟨X, 0, none⟩ = some in1 ∧ W.cell? ⟨Y, 0, none⟩ = some in2 ∧ X < W.heap.size ∧ Y < W.heap.size
theorem ActOne.grown {n : Nat} {two : Bool} {num : Value} {clo : FuncId} {inner v : Value} {W W' : World} (h : ActOne n two num clo inner v W) (hk : ∀ b, n ≤ b → b < W.heap.size → W'.heap[b]? = W.heap[b]?) (hs : W.heap.size ≤ W'.heap.size) : ActOne n two num clo inner v W' := by
  obtain ⟨X, h1, h2, h3, h4⟩ := h
  exact ⟨X, h1, h2, (World.cell?_of_block (w := W) (hk X h1 h4)).trans h3, Nat.lt_of_lt_of_le h4 hs⟩
theorem ActTwo.grown {n : Nat} {clo : FuncId} {in1 in2 v : Value} {W W' : World} (h : ActTwo n clo in1 in2 v W) (hk : ∀ b, n ≤ b → b < W.heap.size → W'.heap[b]? = W.heap[b]?) (hs : W.heap.size ≤ W'.heap.size) : ActTwo n clo in1 in2 v W' := by
  obtain ⟨X, Y, h0, h1, h2, h3, h4, h5, h6⟩ := h
  exact ⟨X, Y, h0, h1, h2, (World.cell?_of_block (w := W) (hk X h0 h5)).trans h3, (World.cell?_of_block (w := W) (hk Y h1 h6)).trans h4, Nat.lt_of_lt_of_le h5 hs, Nat.lt_of_lt_of_le h6 hs⟩
theorem simple_any (b : Bool) (fn : Fn) (W : World) :
    Calls Tryz.prog 91 #[.bool b, .func fn #[] #[]] W fun e W' => (∃ v, e = .returned v ∧ ActOne W.heap.size b .nilFunc 135 (.func fn #[] #[]) v W') ∧ Below W.heap.size W W' := by
  have hmf : ∀ (fn : Fn) (first cap : Array Value) (w : World), (Instr.makeFunc fn first cap).run Tryz.prog w = .ok (.func fn first cap) w := fun _ _ _ _ => rfl
  go_enter Tryz.func91, Tryz.ntmps91
  go_wp2
  refine bodyPost_ret (v := .agg #[.bool b, .nilFunc, .func (.func 135) #[] #[.pointer (some ⟨W.heap.size, 0, none⟩)]]) (by simp [results, Tryz.results91, go_sem]) rfl ?_
  exact ⟨⟨_, rfl, _, Nat.le_refl _, rfl, cell_twoU _ _ _ _ _ _ rfl, size_two _ _ _⟩, below_two _ _ _⟩
theorem changed_any (fn g : Fn) (W : World) :
    Calls Tryz.prog 103 #[.func fn #[] #[], .func g #[] #[]] W fun e W' => (∃ v, e = .returned v ∧ ActOne W.heap.size false (.func fn #[] #[]) 152 (.func g #[] #[]) v W') ∧ Below W.heap.size W W' := by
  have hmf : ∀ (fn : Fn) (first cap : Array Value) (w : World), (Instr.makeFunc fn first cap).run Tryz.prog w = .ok (.func fn first cap) w := fun _ _ _ _ => rfl
  go_enter Tryz.func103, Tryz.ntmps103
  go_wp2
  refine bodyPost_ret (v := .agg #[.bool false, .func fn #[] #[], .func (.func 152) #[] #[.pointer (some ⟨W.heap.size, 0, none⟩)]]) (by simp [results, Tryz.results103, go_sem]) rfl ?_
  exact ⟨⟨_, rfl, _, Nat.le_refl _, rfl, cell_twoU _ _ _ _ _ _ rfl, size_two _ _ _⟩, below_two _ _ _⟩
theorem told_any (fn g : Fn) (W : World) :
    Calls Tryz.prog 87 #[.func fn #[] #[], .func g #[] #[]] W fun e W' => (∃ v, e = .returned v ∧ ActTwo W.heap.size 127 (.func fn #[] #[]) (.func g #[] #[]) v W') ∧ Below W.heap.size W W' := by
  have hmf : ∀ (fn : Fn) (first cap : Array Value) (w : World), (Instr.makeFunc fn first cap).run Tryz.prog w = .ok (.func fn first cap) w := fun _ _ _ _ => rfl
  go_enter Tryz.func87, Tryz.ntmps87
  go_wp2
  refine bodyPost_ret (v := .agg #[.bool false, .nilFunc, .func (.func 127) #[] #[.pointer (some ⟨W.heap.size, 0, none⟩), .pointer (some ⟨W.heap.size + 1, 0, none⟩)]]) (by simp [results, Tryz.results87, go_sem]) rfl ?_
  have hb : Below W.heap.size W (((W.alloc (.cells #[.func fn #[] #[]] 147)).alloc (.cells #[.func g #[] #[]] 149)).alloc (.cells #[.bool false, .nilFunc, .func (.func 127) #[] #[.pointer (some ⟨W.heap.size, 0, none⟩), .pointer (some ⟨W.heap.size + 1, 0, none⟩)]] 75)) := (below_two _ _ _).alloc (by simp; omega) _
  have h1 := cell_twoU W #[.func fn #[] #[]] #[.func g #[] #[]] 147 149 (.func fn #[] #[]) rfl
  have h2 := cell_fresh (W.alloc (.cells #[.func fn #[] #[]] 147)) #[.func g #[] #[]] 149 0 (.func g #[] #[]) rfl
  rw [World.size_alloc] at h2
  have hb2 : Below (W.heap.size + 2) ((W.alloc (.cells #[.func fn #[] #[]] 147)).alloc (.cells #[.func g #[] #[]] 149)) (((W.alloc (.cells #[.func fn #[] #[]] 147)).alloc (.cells #[.func g #[] #[]] 149)).alloc (.cells #[.bool false, .nilFunc, .func (.func 127) #[] #[.pointer (some ⟨W.heap.size, 0, none⟩), .pointer (some ⟨W.heap.size + 1, 0, none⟩)]] 75)) := (Below.refl _ _).alloc (by simp) _
  exact ⟨⟨_, rfl, _, _, Nat.le_refl _, Nat.le_succ _, rfl, (hb2.cell (p := ⟨W.heap.size, 0, none⟩) (by show W.heap.size < _; omega)).trans h1, (hb2.cell (p := ⟨W.heap.size + 1, 0, none⟩) (by show W.heap.size + 1 < _; omega)).trans h2, by simp; omega, by simp⟩, hb⟩
theorem mread_any (W : World) :
    Calls Tryz.prog 90 #[] W fun e W' => e = .returned (.agg #[.bool false, .func (.func 132) #[] #[], .func (.func 134) #[] #[]]) ∧ Below W.heap.size W W' := by
  go_enter Tryz.func90, Tryz.ntmps90
  go_wp2
  refine bodyPost_ret (v := .agg #[.bool false, .func (.func 132) #[] #[], .func (.func 134) #[] #[]]) (by simp [results, Tryz.results90, go_sem]) rfl ?_
  exact ⟨rfl, (Below.refl _ _).alloc (Nat.le_refl _) _⟩
/-- What Kinds do: a value for each Kind. -/
def ActsAt (n : Nat) (v : Nat → Value) (W : World) : Prop :=
  v 1 = .agg #[.bool false, .nilFunc, (.func (.func 86) #[] #[])] ∧ ActTwo n 127 (.func (.func 88) #[] #[]) (.func (.func 89) #[] #[]) (v 2) W ∧
  v 3 = .agg #[.bool false, (.func (.func 132) #[] #[]), (.func (.func 134) #[] #[])] ∧
  ActOne n false .nilFunc 135 (.func (.func 92) #[] #[]) (v 4) W ∧
  ActOne n false .nilFunc 135 (.func (.func 94) #[] #[]) (v 5) W ∧
  ActOne n false .nilFunc 135 (.func (.func 95) #[] #[]) (v 6) W ∧
  ActOne n false .nilFunc 135 (.func (.func 97) #[] #[]) (v 7) W ∧
  ActOne n true .nilFunc 135 (.func (.func 99) #[] #[]) (v 8) W ∧
  ActOne n true .nilFunc 135 (.func (.func 101) #[] #[]) (v 9) W ∧
  ActOne n false (.func (.func 104) #[] #[]) 152 (.func (.func 106) #[] #[]) (v 10) W ∧
  ActOne n false (.func (.func 107) #[] #[]) 152 (.func (.func 110) #[] #[]) (v 11) W
/-- Entries of a map, put one by one. -/
def putsD (v : Nat → Value) (D : DataW Value) (l : List Nat) : DataW Value := l.foldl (fun D k => D.put (.int .i64 (k : Nat)) (.held (v k))) D
theorem putsD_at (v : Nat → Value) (k : Nat) (z : DataW Value) : ∀ (l : List Nat) (D : DataW Value), IsMap D → (putsD v D l).atKey (.int .i64 (k : Nat)) z = if k ∈ l then .held (v k) else D.atKey (.int .i64 (k : Nat)) z
  | [], D, _ => by simp [putsD]
  | j :: l, D, h => by
    have ih := putsD_at v k z l (D.put (.int .i64 (j : Nat)) (.held (v j))) (h.put _ _)
    show (putsD v (D.put (.int .i64 (j : Nat)) (.held (v j))) l).atKey _ z = _
    rw [ih]
    by_cases h1 : k ∈ l
    · rw [if_pos h1, if_pos (List.mem_cons_of_mem _ h1)]
    · rw [if_neg h1]
      by_cases h2 : k = j
      · subst h2
        rw [if_pos List.mem_cons_self]
        exact atKey_put_same h (show WideAt.IsKeyLit (.int .i64 _) from trivial) _ _
      · rw [if_neg (by simp [h1, h2])]
        exact atKey_put_other (fun e => h2 (by injection e with _ e; omega)) _ _
theorem putsD_has (v : Nat → Value) (k : Int) : ∀ (l : List Nat) (D : DataW Value), IsMap D → Maps.has (putsD v D l) (.int .i64 k) = (l.any (fun j => ((j : Nat) : Int) == k) || Maps.has D (.int .i64 k))
  | [], D, _ => by simp [putsD]
  | j :: l, D, h => by
    have ih := putsD_has v k l (D.put (.int .i64 (j : Nat)) (.held (v j))) (h.put _ _)
    show Maps.has (putsD v (D.put (.int .i64 (j : Nat)) (.held (v j))) l) _ = _
    rw [ih, List.any_cons]
    by_cases h2 : ((j : Nat) : Int) = k
    · rw [← h2, has_put_same h (show WideAt.IsKeyLit (.int .i64 _) from trivial), beq_self_eq_true]
      simp
    · rw [has_put_other (fun e => h2 (by injection e with _ e; exact e.symm)), beq_eq_false_iff_ne.2 h2]
      simp
/-- The map of Kinds, as it reads. -/
def actsD (v : Nat → Value) : DataW Value := putsD v (.map []) [1, 2, 3, 4, 5, 6, 7, 8, 9, 10, 11]
theorem actsD_at (v : Nat → Value) (k : Nat) (h1 : 1 ≤ k) (h2 : k ≤ 11) (z : DataW Value) : (actsD v).atKey (.int .i64 (k : Nat)) z = .held (v k) := by
  unfold actsD
  rw [putsD_at v k z _ _ isMap_empty, if_pos (by simp; omega)]
theorem actsD_in (v : Nat → Value) (k : Int) : Maps.has (actsD v) (.int .i64 k) = decide (1 ≤ k ∧ k ≤ 11) := by
  unfold actsD
  rw [putsD_has v k _ _ isMap_empty, Bool.eq_iff_iff]
  simp [Maps.has]
  omega
/-- W' is W but for block n, and what was laid behind. -/
def KeptBut (n : Nat) (W W' : World) : Prop := W.heap.size ≤ W'.heap.size ∧ ∀ b, b ≠ n → b < W.heap.size → W'.heap[b]? = W.heap[b]?
theorem KeptBut.refl (n : Nat) (W : World) : KeptBut n W W := ⟨Nat.le_refl _, fun _ _ _ => rfl⟩
theorem KeptBut.trans {n : Nat} {W W1 W2 : World} (h : KeptBut n W W1) (k : KeptBut n W1 W2) : KeptBut n W W2 :=
  ⟨Nat.le_trans h.1 k.1, fun b h1 h2 => (k.2 b h1 (Nat.lt_of_lt_of_le h2 h.1)).trans (h.2 b h1 h2)⟩
theorem KeptBut.of_below {n : Nat} {W W' : World} (h : Below W.heap.size W W') : KeptBut n W W' := ⟨h.size, fun b _ h2 => h.block b h2⟩
theorem KeptBut.of_grown {n : Nat} {W W' : World} (h : W.grownBy W' (some n)) : KeptBut n W W' := ⟨h.size, fun b h1 h2 => h.block b h2 (fun e => h1 (by injection e with e))⟩
theorem ActOne.but {m n : Nat} {two : Bool} {num : Value} {clo : FuncId} {inner v : Value} {W W' : World} (h : ActOne m two num clo inner v W) (hm : n < m) (k : KeptBut n W W') : ActOne n two num clo inner v W' :=
  let ⟨X, h1, h2, h3, h4⟩ := h
  ⟨X, by omega, h2, (World.cell?_of_block (w := W) (k.2 X (by omega) h4)).trans h3, Nat.lt_of_lt_of_le h4 k.1⟩
theorem ActTwo.but {m n : Nat} {clo : FuncId} {in1 in2 v : Value} {W W' : World} (h : ActTwo m clo in1 in2 v W) (hm : n < m) (k : KeptBut n W W') : ActTwo n clo in1 in2 v W' :=
  let ⟨X, Y, h0, h1, h2, h3, h4, h5, h6⟩ := h
  ⟨X, Y, by omega, by omega, h2, (World.cell?_of_block (w := W) (k.2 X (by omega) h5)).trans h3, (World.cell?_of_block (w := W) (k.2 Y (by omega) h6)).trans h4, Nat.lt_of_lt_of_le h5 k.1, Nat.lt_of_lt_of_le h6 k.1⟩
theorem own_below {P : Program} {k : TypeId} {b n : Nat} {D : DataW Value} {W W' : World} (h : W.ownsMap P k heldV b n D) (hb : Below W.heap.size W W') : W'.ownsMap P k heldV b n D := by
  obtain ⟨es, clock, hb', r⟩ := h
  exact ⟨es, clock, (hb.block b (Array.getElem?_eq_some_iff.1 hb').1).trans hb', r⟩
set_option maxRecDepth 100000 in
set_option maxHeartbeats 8000000 in
theorem acts_any (W : World) :
    Calls Tryz.prog 53 #[] W fun e W' => ∃ v, e = .returned (.map (some W.heap.size)) ∧ W'.ownsMap Tryz.prog 30 heldV W.heap.size 11 (actsD v) ∧ ActsAt W.heap.size v W' ∧ Below W.heap.size W W' := by
  have hmm := @run_makeMap Tryz.prog
  have HBC1 : Hid (Below W.heap.size W (W.alloc (.map #[] 0))) := (Below.refl _ W).alloc (Nat.le_refl _) _
  have HOC1 : Hid ((W.alloc (.map #[] 0)).ownsMap Tryz.prog 30 heldV W.heap.size 0 (.map [])) := World.ownsMap_made W _ _ _
  have HK := Lib.hid (fun (W1 W2 : World) (hb : Below W.heap.size W W1) (hg : W1.grownBy W2 (some W.heap.size)) => below_grown hb hg (Nat.le_refl _) (Nat.le_refl _))
  have ti1 : True := trivial
  have ti2 : True := trivial
  have ti3 : True := trivial
  have ti4 : True := trivial
  have ti5 : True := trivial
  have ti6 : True := trivial
  have ti7 : True := trivial
  have ti8 : True := trivial
  have ti9 : True := trivial
  have ti10 : True := trivial
  have ti11 : True := trivial
  have tc2 : True := trivial
  have tc3 : True := trivial
  have tc4 : True := trivial
  have tc5 : True := trivial
  have tc6 : True := trivial
  have tc7 : True := trivial
  have tc8 : True := trivial
  have tc9 : True := trivial
  have tc10 : True := trivial
  have tc11 : True := trivial
  go_enter Tryz.func53, Tryz.ntmps53
  go_wp2_with (first
    | (have _t := ti1; refine wpList_insert_own _ rfl _ _ _ 101 rfl 30 75 keyedK Tryz.underlyingActs W.heap.size 0 _ rfl HOC1.out (by decide) _ _ _ rfl rfl (keyK (by decide)) ?_; intro w1 ho hg; have HO1 := Lib.hid ho; have HB1 := Lib.hid (HK.out _ _ HBC1.out hg); have HKI1 := Lib.hid (KeptBut.of_grown hg); clear ho hg ti1 _t)
    | (go_at_call 87; have _t := tc2; refine (told_any _ _ _).mono ?_; rintro e wc2 ⟨⟨v2, rfl, ha⟩, hb⟩; have HA2 := Lib.hid ha; clear ha; have HOC2 := Lib.hid (own_below HO1.out hb); have HBC2 := Lib.hid (HB1.out.trans (hb.mono HB1.out.size)); have HKC2 := Lib.hid (KeptBut.of_below (n := W.heap.size) hb); have HL2 := Lib.hid HO1.out.lt; clear hb tc2 _t)
    | (have _t := ti2; refine wpList_insert_own _ rfl _ _ _ 101 rfl 30 75 keyedK Tryz.underlyingActs W.heap.size 1 _ rfl HOC2.out (by decide) _ _ _ rfl rfl (keyK (by decide)) ?_; intro w2 ho hg; have HO2 := Lib.hid ho; have HB2 := Lib.hid (HK.out _ _ HBC2.out hg); have HKI2 := Lib.hid (KeptBut.of_grown hg); clear ho hg ti2 _t)
    | (go_at_call 90; have _t := tc3; refine (mread_any _).mono ?_; rintro e wc3 ⟨rfl, hb⟩; have HOC3 := Lib.hid (own_below HO2.out hb); have HBC3 := Lib.hid (HB2.out.trans (hb.mono HB2.out.size)); have HKC3 := Lib.hid (KeptBut.of_below (n := W.heap.size) hb); have HL3 := Lib.hid HO2.out.lt; clear hb tc3 _t)
    | (have _t := ti3; refine wpList_insert_own _ rfl _ _ _ 101 rfl 30 75 keyedK Tryz.underlyingActs W.heap.size 2 _ rfl HOC3.out (by decide) _ _ _ rfl rfl (keyK (by decide)) ?_; intro w3 ho hg; have HO3 := Lib.hid ho; have HB3 := Lib.hid (HK.out _ _ HBC3.out hg); have HKI3 := Lib.hid (KeptBut.of_grown hg); clear ho hg ti3 _t)
    | (go_at_call 91; have _t := tc4; refine (simple_any _ _ _).mono ?_; rintro e wc4 ⟨⟨v4, rfl, ha⟩, hb⟩; have HA4 := Lib.hid ha; clear ha; have HOC4 := Lib.hid (own_below HO3.out hb); have HBC4 := Lib.hid (HB3.out.trans (hb.mono HB3.out.size)); have HKC4 := Lib.hid (KeptBut.of_below (n := W.heap.size) hb); have HL4 := Lib.hid HO3.out.lt; clear hb tc4 _t)
    | (have _t := ti4; refine wpList_insert_own _ rfl _ _ _ 101 rfl 30 75 keyedK Tryz.underlyingActs W.heap.size 3 _ rfl HOC4.out (by decide) _ _ _ rfl rfl (keyK (by decide)) ?_; intro w4 ho hg; have HO4 := Lib.hid ho; have HB4 := Lib.hid (HK.out _ _ HBC4.out hg); have HKI4 := Lib.hid (KeptBut.of_grown hg); clear ho hg ti4 _t)
    | (go_at_call 91; have _t := tc5; refine (simple_any _ _ _).mono ?_; rintro e wc5 ⟨⟨v5, rfl, ha⟩, hb⟩; have HA5 := Lib.hid ha; clear ha; have HOC5 := Lib.hid (own_below HO4.out hb); have HBC5 := Lib.hid (HB4.out.trans (hb.mono HB4.out.size)); have HKC5 := Lib.hid (KeptBut.of_below (n := W.heap.size) hb); have HL5 := Lib.hid HO4.out.lt; clear hb tc5 _t)
    | (have _t := ti5; refine wpList_insert_own _ rfl _ _ _ 101 rfl 30 75 keyedK Tryz.underlyingActs W.heap.size 4 _ rfl HOC5.out (by decide) _ _ _ rfl rfl (keyK (by decide)) ?_; intro w5 ho hg; have HO5 := Lib.hid ho; have HB5 := Lib.hid (HK.out _ _ HBC5.out hg); have HKI5 := Lib.hid (KeptBut.of_grown hg); clear ho hg ti5 _t)
    | (go_at_call 91; have _t := tc6; refine (simple_any _ _ _).mono ?_; rintro e wc6 ⟨⟨v6, rfl, ha⟩, hb⟩; have HA6 := Lib.hid ha; clear ha; have HOC6 := Lib.hid (own_below HO5.out hb); have HBC6 := Lib.hid (HB5.out.trans (hb.mono HB5.out.size)); have HKC6 := Lib.hid (KeptBut.of_below (n := W.heap.size) hb); have HL6 := Lib.hid HO5.out.lt; clear hb tc6 _t)
    | (have _t := ti6; refine wpList_insert_own _ rfl _ _ _ 101 rfl 30 75 keyedK Tryz.underlyingActs W.heap.size 5 _ rfl HOC6.out (by decide) _ _ _ rfl rfl (keyK (by decide)) ?_; intro w6 ho hg; have HO6 := Lib.hid ho; have HB6 := Lib.hid (HK.out _ _ HBC6.out hg); have HKI6 := Lib.hid (KeptBut.of_grown hg); clear ho hg ti6 _t)
    | (go_at_call 91; have _t := tc7; refine (simple_any _ _ _).mono ?_; rintro e wc7 ⟨⟨v7, rfl, ha⟩, hb⟩; have HA7 := Lib.hid ha; clear ha; have HOC7 := Lib.hid (own_below HO6.out hb); have HBC7 := Lib.hid (HB6.out.trans (hb.mono HB6.out.size)); have HKC7 := Lib.hid (KeptBut.of_below (n := W.heap.size) hb); have HL7 := Lib.hid HO6.out.lt; clear hb tc7 _t)
    | (have _t := ti7; refine wpList_insert_own _ rfl _ _ _ 101 rfl 30 75 keyedK Tryz.underlyingActs W.heap.size 6 _ rfl HOC7.out (by decide) _ _ _ rfl rfl (keyK (by decide)) ?_; intro w7 ho hg; have HO7 := Lib.hid ho; have HB7 := Lib.hid (HK.out _ _ HBC7.out hg); have HKI7 := Lib.hid (KeptBut.of_grown hg); clear ho hg ti7 _t)
    | (go_at_call 91; have _t := tc8; refine (simple_any _ _ _).mono ?_; rintro e wc8 ⟨⟨v8, rfl, ha⟩, hb⟩; have HA8 := Lib.hid ha; clear ha; have HOC8 := Lib.hid (own_below HO7.out hb); have HBC8 := Lib.hid (HB7.out.trans (hb.mono HB7.out.size)); have HKC8 := Lib.hid (KeptBut.of_below (n := W.heap.size) hb); have HL8 := Lib.hid HO7.out.lt; clear hb tc8 _t)
    | (have _t := ti8; refine wpList_insert_own _ rfl _ _ _ 101 rfl 30 75 keyedK Tryz.underlyingActs W.heap.size 7 _ rfl HOC8.out (by decide) _ _ _ rfl rfl (keyK (by decide)) ?_; intro w8 ho hg; have HO8 := Lib.hid ho; have HB8 := Lib.hid (HK.out _ _ HBC8.out hg); have HKI8 := Lib.hid (KeptBut.of_grown hg); clear ho hg ti8 _t)
    | (go_at_call 91; have _t := tc9; refine (simple_any _ _ _).mono ?_; rintro e wc9 ⟨⟨v9, rfl, ha⟩, hb⟩; have HA9 := Lib.hid ha; clear ha; have HOC9 := Lib.hid (own_below HO8.out hb); have HBC9 := Lib.hid (HB8.out.trans (hb.mono HB8.out.size)); have HKC9 := Lib.hid (KeptBut.of_below (n := W.heap.size) hb); have HL9 := Lib.hid HO8.out.lt; clear hb tc9 _t)
    | (have _t := ti9; refine wpList_insert_own _ rfl _ _ _ 101 rfl 30 75 keyedK Tryz.underlyingActs W.heap.size 8 _ rfl HOC9.out (by decide) _ _ _ rfl rfl (keyK (by decide)) ?_; intro w9 ho hg; have HO9 := Lib.hid ho; have HB9 := Lib.hid (HK.out _ _ HBC9.out hg); have HKI9 := Lib.hid (KeptBut.of_grown hg); clear ho hg ti9 _t)
    | (go_at_call 103; have _t := tc10; refine (changed_any _ _ _).mono ?_; rintro e wc10 ⟨⟨v10, rfl, ha⟩, hb⟩; have HA10 := Lib.hid ha; clear ha; have HOC10 := Lib.hid (own_below HO9.out hb); have HBC10 := Lib.hid (HB9.out.trans (hb.mono HB9.out.size)); have HKC10 := Lib.hid (KeptBut.of_below (n := W.heap.size) hb); have HL10 := Lib.hid HO9.out.lt; clear hb tc10 _t)
    | (have _t := ti10; refine wpList_insert_own _ rfl _ _ _ 101 rfl 30 75 keyedK Tryz.underlyingActs W.heap.size 9 _ rfl HOC10.out (by decide) _ _ _ rfl rfl (keyK (by decide)) ?_; intro w10 ho hg; have HO10 := Lib.hid ho; have HB10 := Lib.hid (HK.out _ _ HBC10.out hg); have HKI10 := Lib.hid (KeptBut.of_grown hg); clear ho hg ti10 _t)
    | (go_at_call 103; have _t := tc11; refine (changed_any _ _ _).mono ?_; rintro e wc11 ⟨⟨v11, rfl, ha⟩, hb⟩; have HA11 := Lib.hid ha; clear ha; have HOC11 := Lib.hid (own_below HO10.out hb); have HBC11 := Lib.hid (HB10.out.trans (hb.mono HB10.out.size)); have HKC11 := Lib.hid (KeptBut.of_below (n := W.heap.size) hb); have HL11 := Lib.hid HO10.out.lt; clear hb tc11 _t)
    | (have _t := ti11; refine wpList_insert_own _ rfl _ _ _ 101 rfl 30 75 keyedK Tryz.underlyingActs W.heap.size 10 _ rfl HOC11.out (by decide) _ _ _ rfl rfl (keyK (by decide)) ?_; intro w11 ho hg; have HO11 := Lib.hid ho; have HB11 := Lib.hid (HK.out _ _ HBC11.out hg); have HKI11 := Lib.hid (KeptBut.of_grown hg); clear ho hg ti11 _t))
  have k11 := HKI11.out
  have k10 := HKI10.out.trans (HKC11.out.trans k11)
  have k9 := HKI9.out.trans (HKC10.out.trans k10)
  have k8 := HKI8.out.trans (HKC9.out.trans k9)
  have k7 := HKI7.out.trans (HKC8.out.trans k8)
  have k6 := HKI6.out.trans (HKC7.out.trans k7)
  have k5 := HKI5.out.trans (HKC6.out.trans k6)
  have k4 := HKI4.out.trans (HKC5.out.trans k5)
  have k3 := HKI3.out.trans (HKC4.out.trans k4)
  have k2 := HKI2.out.trans (HKC3.out.trans k3)
  go_ret
  exact ⟨fun k => match k with | 1 => .agg #[.bool false, .nilFunc, (.func (.func 86) #[] #[])] | 2 => v2 | 3 => .agg #[.bool false, (.func (.func 132) #[] #[]), (.func (.func 134) #[] #[])] | 4 => v4 | 5 => v5 | 6 => v6 | 7 => v7 | 8 => v8 | 9 => v9 | 10 => v10 | 11 => v11 | _ => .nilFunc, rfl, HO11.out, ⟨rfl, HA2.out.but HL2.out k2, rfl, HA4.out.but HL4.out k4, HA5.out.but HL5.out k5, HA6.out.but HL6.out k6, HA7.out.but HL7.out k7, HA8.out.but HL8.out k8, HA9.out.but HL9.out k9, HA10.out.but HL10.out k10, HA11.out.but HL11.out k11⟩, HB11.out⟩
end Go.Proofs.YtibpagmpdgflmaaGreatDoor
