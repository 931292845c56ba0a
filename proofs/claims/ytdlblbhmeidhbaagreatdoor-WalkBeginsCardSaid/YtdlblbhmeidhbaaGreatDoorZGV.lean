/- The iterator slices.Values at integers; the law's ats. Conditions: none. -/
import Derived.Test.YtdlblbhmeidhbaaGreatDoorZGU
import Derived.Test.YtdlblbhmeidhbaaGreatDoorZQ1
namespace Go.Proofs.YtdlblbhmeidhbaaGreatDoor
open Go.RowKit Go.Shelf
attribute [local go_sem] Oper.semAt_some

theorem take_prefix_one {l : List Nat} {k x : Nat} (h : l[k]? = some x) : l.take k ++ [x] <+: l := by
  have hk := (List.getElem?_eq_some_iff.1 h).1
  have : l.take k ++ [x] = l.take (k + 1) := by
    rw [List.take_add_one, h]
    rfl
  rw [this]
  exact List.take_prefix _ _
set_option maxRecDepth 100000 in
set_option maxHeartbeats 2000000 in
theorem values1_in (lp Vb n c : Nat) (A : Option Addr) (l : List Nat) (hl : l.length = n) (hn : n ≤ 100000) (hnc : n ≤ c) (J Jx : List Nat → World → Prop) (W : World)
    (hQ : ∀ pre W1, J pre W1 → RowAt W1 A (l.map encI))
    (hY : ∀ pre x W1, W.heap.size ≤ W1.heap.size → J pre W1 → pre ++ [x] <+: l → Yields Tryz.prog lp #[.int .i64 (x : Nat)] W1 fun e W' =>
      (e = .returned (.bool true) ∧ J (pre ++ [x]) W' ∧ Keeps W.heap.size 0 W.heap.size W1 W') ∨ (e = .returned (.bool false) ∧ Jx (pre ++ [x]) W' ∧ Keeps W.heap.size 0 W.heap.size W1 W'))
    (hc : W.cell? ⟨Vb, 0, none⟩ = some (.slice A n c)) (h0 : J [] W) :
    Calls Tryz.prog 57 #[.func (.yield lp) #[] #[], .pointer (some ⟨Vb, 0, none⟩)] W fun e W' => (∃ v, e = .returned v) ∧
      ((∃ xs, xs = l ∧ J xs W') ∨ (∃ pre, pre <+: l ∧ Jx pre W')) := by
  have HY := Lib.hid hY
  have HJ := Lib.hid h0
  have HQ := Lib.hid hQ
  clear hY h0 hQ
  refine (callsIn_wide (n := 10)).1 ?_
  refine callsIn_of_wp Tryz.func57 rfl trivial ?_ rfl
  simp only [Tryz.ntmps57, List.size_toArray, List.length_cons, List.length_nil, Nat.reduceAdd, Nat.reduceSub, Array.replicate_succ, Array.replicate_zero, List.push_toArray, List.append_toArray, List.nil_append, List.cons_append]
  gi_wp2
  gi_loopw [7] (fun i wr => ∃ k : Nat, i = .int .i64 k ∧ k ≤ n ∧ W.heap.size ≤ wr.heap.size ∧ J (l.take k) wr) (fun i _ => n + 1 - (intOf i).toNat)
  case atStart => exact ⟨0, rfl, Nat.zero_le _, Nat.le_refl _, HJ.out⟩
  case round =>
    obtain ⟨k, rfl, hk, hsz, hj⟩ := hrel
    by_cases hlt : k < n
    · obtain ⟨x, hx⟩ : ∃ x, l[k]? = some x := ⟨_, List.getElem?_eq_getElem (by omega)⟩
      have hrow := HQ.out _ _ hj
      obtain ⟨b, off, rfl, hb, hcell⟩ := hrow (by rw [List.length_map]; omega)
      have hck : wr.cell? ⟨b, off + k, none⟩ = some (.int .i64 (x : Nat)) := hcell k _ (by rw [List.getElem?_map, hx]; rfl)
      have hj0 : (0 : Int) ≤ (k : Int) := by omega
      have hjn : (k : Int) < (n : Int) := by omega
      have hk1 : IntKind.i64.wrap ((k : Int) + 1) = ((k + 1 : Nat) : Int) := by rw [IntWalk.i64_in _ (by omega)]; omega
      have htk : l.take (k + 1) = l.take k ++ [x] := by rw [List.take_add_one, hx]; rfl
      obtain ⟨fn, tmps, assign, body, hy, hR⟩ := HY.out (l.take k) x wr hsz hj (take_prefix_one hx)
      clear hcell hrow
      gi_wp2
      refine (hR _).mono ?_
      rintro e W3 (⟨rfl, hJ3, hk3⟩ | ⟨rfl, hJx3, _⟩)
      · gi_wp2
        go_roundw
        case rel => exact ⟨k + 1, rfl, by omega, Nat.le_trans hsz hk3.size, by rw [htk]; exact hJ3⟩
        case measure => simp [intOf]; omega
      · gi_wp2
        refine bodyPost_ret (results_none rfl _ _ _) rfl ?_
        exact ⟨⟨_, rfl⟩, .inr ⟨_, take_prefix_one hx, hJx3⟩⟩
    · gi_wp2
      go_end0
      refine ⟨⟨_, rfl⟩, .inl ⟨_, ?_, hj⟩⟩
      rw [List.take_of_length_le (by omega)]
theorem values_iter (Vb n c : Nat) (A : Option Addr) (l : List Nat) (hl : l.length = n) (hn : n ≤ 100000) (hnc : n ≤ c) (w : World) (hB : Vb < w.heap.size) (hc : w.cell? ⟨Vb, 0, none⟩ = some (.slice A n c)) :
    IterQ Tryz.prog 57 #[.pointer (some ⟨Vb, 0, none⟩)] (fun x : Nat => #[Value.int .i64 x]) 0 (fun W => RowAt W A (l.map encI)) (fun xs => xs = l) (fun pre => pre <+: l) (fun pre x => pre ++ [x] <+: l) w :=
  fun lp J Jx W hW _ _ hQ hY h0 => (values1_in lp Vb n c A l hl hn hnc (J W.heap.size) (Jx W.heap.size) W (fun _ W1 h => hQ W.heap.size _ W1 h) (fun pre x W1 hs hj hlen => hY W.heap.size pre x W1 (Nat.le_refl _) hs hj hlen) ((hW.cell (p := ⟨Vb, 0, none⟩) hB).trans hc) (h0 _ (Nat.le_refl _))).mono
    fun _ _ ⟨hv, h⟩ => ⟨hv, h.elim (fun ⟨xs, h1, h2⟩ => .inl ⟨_, xs, Nat.le_refl _, h1, h2⟩) (fun ⟨xs, h1, h2⟩ => .inr ⟨_, xs, Nat.le_refl _, h1, h2⟩)⟩
/-- What the loop over the addresses keeps. -/
def OutI (w0 W2 : World) (Bo H : Nat) (pre : List Nat) (W : World) : Prop :=
  ∃ v, W.heap[Bo]? = some (.cells #[v] 38 (0, 0)) ∧ W.ownsRow H 3 1 v pre.length (pre.map encI) ∧ Below w0.heap.size w0 W ∧ W2.heap.size ≤ W.heap.size ∧ ∀ k, k < W2.heap.size → k ≠ Bo → W.heap[k]? = W2.heap[k]?
theorem outI_own {w0 W2 : World} {Bo H : Nat} (hB : Bo < W2.heap.size) (h0 : w0.heap.size ≤ W2.heap.size) : OwnFrom W2.heap.size (OutI w0 W2 Bo H) := fun _ X Y row hs hg hr => by
  obtain ⟨v, h1, h2, h3, h4, h5⟩ := hs
  have hk : ∀ k, k < W2.heap.size → Y.heap[k]? = X.heap[k]? := fun k hk => hg.block k (by omega) (fun e => by have := (hr _ e.symm).1; omega)
  exact ⟨v, (hk _ hB).trans h1, owns_ownFrom h2 hg hr, h3.grown hg h3.size (fun k e => by have := (hr k e).1; omega), Nat.le_trans h4 hg.size, fun k e1 e2 => (hk k e1).trans (h5 k e1 e2)⟩
/-- An address was appended. -/
theorem outI_next {w0 W2 W1 W6 : World} {Bo H m x g cap : Nat} {pre : List Nat} {v : Value} (hm : pre.length = m) (hw0 : w0.heap.size ≤ Bo) (hB : Bo < W2.heap.size) (hH : W2.heap.size ≤ H)
    (h1 : W1.heap[Bo]? = some (.cells #[v] 38 (0, 0))) (h2 : W1.ownsRow H 3 1 v m (pre.map encI)) (h3 : Below w0.heap.size w0 W1) (h4 : H ≤ W1.heap.size) (h5 : ∀ k, k < W2.heap.size → k ≠ Bo → W1.heap[k]? = W2.heap[k]?)
    (hown6 : W6.ownsRow H 3 1 (.slice (some ⟨g, 0, none⟩) (m + 1) cap) (m + 1) (pre.map encI ++ [.int .i64 (x : Nat)])) (hgr6 : (W1.alloc (.cells #[.int .i64 (x : Nat)] 3)).grownBy W6 v.ownBlock) :
    W6.heap[Bo]? = some (.cells #[v] 38 (0, 0)) ∧ (∀ k, k < W2.heap.size → k ≠ Bo → W6.heap[k]? = W2.heap[k]?) ∧
    Keeps W2.heap.size 0 H W1 (W6.setCell ⟨Bo, 0, none⟩ (.slice (some ⟨g, 0, none⟩) (m + 1) cap)) ∧ OutI w0 W2 Bo H (pre ++ [x]) (W6.setCell ⟨Bo, 0, none⟩ (.slice (some ⟨g, 0, none⟩) (m + 1) cap)) := by
  have hvne : ∀ k, v.ownBlock = some k → H ≤ k ∧ k < W1.heap.size := fun k e => h2.lt k e
  have h16 : W6.heap[Bo]? = some (.cells #[v] 38 (0, 0)) := by
    refine (hgr6.block Bo (by simp; omega) (fun e => ?_)).trans ?_
    · have := (hvne _ e.symm).1; omega
    · rw [Below.heap_alloc _ _ _ (by omega)]; exact h1
  have HK1 : ∀ k, k < W1.heap.size → v.ownBlock ≠ some k → k ≠ Bo → (W6.setCell ⟨Bo, 0, none⟩ (.slice (some ⟨g, 0, none⟩) (m + 1) cap)).heap[k]? = W1.heap[k]? := fun k hk hv hne => by
    rw [Below.heap_setCell _ _ _ k hne, hgr6.block k (by simp; omega) hv.symm]
    exact Below.heap_alloc _ _ _ (by omega)
  have hz6 : W1.heap.size ≤ W6.heap.size := by have := hgr6.size; simp at this; omega
  have hB6 : Below w0.heap.size w0 W6 := (h3.alloc (by omega) _).grown hgr6 (by simp; omega) (fun k e => by have := (hvne k e).1; omega)
  have hsz7 : (W6.setCell ⟨Bo, 0, none⟩ (.slice (some ⟨g, 0, none⟩) (m + 1) cap)).heap.size = W6.heap.size := by simp
  have hL : H ≤ g := (hown6.lt g rfl).1
  refine ⟨h16, fun k hk hne => ?_, ⟨⟨?_, ?_, ?_, by omega, fun k hk => absurd hk (by omega)⟩, fun k o hk ho hc => ?_, fun k hk hkH => ?_⟩, ?_⟩
  · rw [hgr6.block k (by simp; omega) (fun e => by have := (hvne k e.symm).1; omega), Below.heap_alloc _ _ _ (by omega)]
    exact h5 k hk hne
  · show W6.os = W1.os
    rw [hB6.os, h3.os]
  · show W6.tape = W1.tape
    rw [hB6.tape, h3.tape]
  · show W6.output = W1.output
    rw [hB6.output, h3.output]
  · refine (HK1 k (Array.getElem?_eq_some_iff.1 ho).1 (fun e => ?_) (by omega)).trans ho
    rcases h2.2 with ⟨e0, _⟩ | ⟨g0, c0, cur, e0, _, hc0, _⟩
    · rw [e0] at e; cases e
    · rw [e0] at e
      injection e with e
      rw [← e] at ho
      rw [hc0] at ho
      cases ho
      cases hc
  · exact HK1 k (by omega) (fun e => by have := (hvne k e).1; omega) (by omega)
  · refine ⟨.slice (some ⟨g, 0, none⟩) (m + 1) cap, ?_, ?_, hB6.setCell (p := ⟨Bo, 0, none⟩) hw0 _, by omega, fun k hk hne => ?_⟩
    · simp [World.setCell, Array.getElem?_modify, h16]
    · rw [List.length_append, List.map_append, hm, show [x].length = 1 by rfl]
      exact ownsRow_setCell_other hown6 (a := ⟨Bo, 0, none⟩) (fun e => by injection e with e; have : g = Bo := e; omega) (.slice (some ⟨g, 0, none⟩) (m + 1) cap)
    · rw [HK1 k (by omega) (fun e => by have := (hvne k e).1; omega) hne]
      exact h5 k hk hne
variable {FA : Option Addr} {nf cf : Nat} {fed : List Nat}
/-- What the law's ats leaves. -/
def LatsPost (l : List Nat) (W : World) (e : Ending) (W' : World) : Prop := ∃ A c, e = .returned (.slice A l.length c) ∧ W'.ownsRow W.heap.size 3 1 (.slice A l.length c) l.length (l.map encI) ∧ l.length ≤ c ∧ c ≤ maxLen ∧ Below W.heap.size W W'
set_option maxRecDepth 100000 in
set_option maxHeartbeats 8000000 in
theorem lats_any (s : ByteArray) (most : Nat) (W : World) (hs : s.size < 4294967281) (h1m : 1 ≤ most) (hm : most < 9223372036854775808) (hfl : fed.length = nf) (hnf : nf ≤ maxLen) (hx64 : ∀ x ∈ fed, x < 18446744073709551616) (hrow : RowAt W FA (fed.map encW)) (hal : (atsP (bytesOf s) fed).length ≤ 100000) :
    Calls Tryz.prog 13 #[.string s, .slice FA nf cf, .int .i64 most] W (LatsPost ((atsP (bytesOf s) fed).take most) W) := by
  obtain ⟨i0, hi, hz0, hz1, hz2⟩ := info_parts Tryz.infoInt
  have hcmp : ∀ (Vb : Nat) (w : World), (binOp .eql 68 (.func (.func 57) #[] #[.pointer (some ⟨Vb, 0, none⟩)]) .nilFunc).run Tryz.prog w = .ok (.bool false) w := fun _ _ => by kernel_rfl
  have HAT := Lib.hid (fun (W : World) (h1 : RowAt W FA (fed.map encW)) => atsF_any (cf := cf) s W hs hfl hnf hx64 h1 hal)
  generalize atsP (bytesOf s) fed = l at *
  have hb0 : Below W.heap.size W ((W.alloc (.cells #[.int .i64 most] 3)).alloc (.cells #[.slice none 0 0] 38)) := ((Below.refl _ _).alloc (Nat.le_refl _) _).alloc (by simp) _
  obtain ⟨W0, hW0⟩ : ∃ W0, (W.alloc (.cells #[.int .i64 most] 3)).alloc (.cells #[.slice none 0 0] 38) = W0 := ⟨_, rfl⟩
  have hs0 : W0.heap.size = W.heap.size + 2 := by rw [← hW0]; simp
  have hm0 : W0.cell? ⟨W.heap.size, 0, none⟩ = some (.int .i64 most) := by
    rw [← hW0]
    exact (((Below.refl _ (W.alloc (.cells #[.int .i64 most] 3))).alloc (Nat.le_refl _) _).cell (p := ⟨W.heap.size, 0, none⟩) (by simp)).trans (cell_new W _ _ 0 _ rfl)
  have ho0 : W0.heap[W.heap.size + 1]? = some (.cells #[.slice none 0 0] 38 (0, 0)) := by
    rw [← hW0]
    have := World.alloc_heap_new (w := W.alloc (.cells #[.int .i64 most] 3)) (.cells #[.slice none 0 0] 38)
    rwa [World.size_alloc] at this
  rw [hW0] at hb0
  have hrow0 := hrow.below hb0
  have HA0 := Lib.hid (HAT.out W0 hrow0)
  have HN := Lib.hid (fun (w2 : World) (hb : Below W0.heap.size W0 w2) => HAT.out w2 (hrow0.below hb))
  have HB0 := Lib.hid hb0
  clear hrow hrow0 hx64 hb0 HAT
  refine calls_of_wp_marks Tryz.func13 rfl ?_
  simp only [Tryz.ntmps13, List.size_toArray, List.length_cons, List.length_nil, Nat.reduceAdd, Nat.reduceSub, Array.replicate_succ, Array.replicate_zero, List.push_toArray, List.append_toArray, List.nil_append, List.cons_append]
  go_wp2_with fail
  refine HA0.out.mono ?_
  rintro e w2 ⟨Vb, A, c, rfl, _, _, _, _, _, hb2⟩
  go_wp2_with fail
  refine (HN.out w2 hb2).mono ?_
  rintro e w3 ⟨Vb, A, c, rfl, hVb, hvc, hlc, hcm, hrow3, hb3⟩
  have hb03 : Below W0.heap.size W0 w3 := hb2.trans (hb3.mono hb2.size)
  have hm3 := (hb03.cell (p := ⟨W.heap.size, 0, none⟩) (by show W.heap.size < _; omega)).trans hm0
  have ho3 := (hb03.block (W.heap.size + 1) (by omega)).trans ho0
  have HB3 : Hid (Below W.heap.size W w3) := HB0.out.trans (hb03.mono (by omega))
  have hs3 := hb03.size
  have hVl : Vb < w3.heap.size := World.block_lt_of_cell? w3 ⟨Vb, 0, none⟩ hvc
  clear hb2 hb3 hb03 HA0 HN
  go_wp2_with fail
  have HLC := Lib.hid hlc
  refine wp_rangeQ_fix (gf := 57) (lb := #[.pointer (some ⟨Vb, 0, none⟩)]) rfl (enters_of Tryz.func57 (by kernel_rfl) rfl)
    (values_iter Vb l.length c A l rfl hal hlc w3 hVl hvc) (Below.refl _ _) (Nat.zero_le _) (fun _ => rfl)
    (fun H pre W1 => OutI W w3 (W.heap.size + 1) H pre W1 ∧ pre.length < most) (fun H c pre W1 => OutI W w3 (W.heap.size + 1) H pre W1 ∧ c = .exit 0 ∧ pre.length = most)
    (fun H => fun _ X Y row hs hg hr => ⟨outI_own (by omega) (by omega) _ X Y row hs.1 hg hr, hs.2⟩) (fun H c => fun _ X Y row hs hg hr => ⟨outI_own (by omega) (by omega) _ X Y row hs.1 hg hr, hs.2⟩)
    (fun H pre W1 hI => by
      obtain ⟨⟨_, _, _, _, h4, h5⟩, _⟩ := hI
      intro hp
      obtain ⟨b, off, e, hb, hcl⟩ := hrow3 hp
      have hne : b ≠ W.heap.size + 1 := fun e' => by
        subst e'
        obtain ⟨x, hx⟩ : ∃ x, (l.map encI)[0]? = some x := ⟨_, List.getElem?_eq_getElem hp⟩
        have := hcl 0 x hx
        rw [List.getElem?_map] at hx
        cases hl0 : l[0]? with
        | none => rw [hl0] at hx; cases hx
        | some y =>
          rw [hl0] at hx
          cases hx
          unfold World.cell? at this
          rw [ho3] at this
          simp at this
          rcases Nat.eq_zero_or_pos off with h0 | h0
          · subst h0; simp [encI] at this
          · simp [show off ≠ 0 by omega] at this
      exact ⟨b, off, e, by omega, fun k u hu => (World.cell?_of_block (a := ⟨b, off + k, none⟩) (h5 b hb hne)).trans (hcl k u hu)⟩)
    (fun H hH => ⟨⟨.slice none 0 0, ho3, World.ownsRow_nil _ _ _ _, HB3.out, Nat.le_refl _, fun _ _ _ => rfl⟩, h1m⟩) ?_ ?_ ?_ ?_ ?_
  rotate_left
  · intro l' x W K hK
    gi_wp2
    exact hK
  · rintro l' H pre x W1 hl' hlH hHW _ ⟨⟨v, h1, h2, h3, h4, h5⟩, hlen⟩ hT
    obtain ⟨m, hm'⟩ : ∃ m, pre.length = m := ⟨_, rfl⟩
    rw [hm'] at h2 hlen
    have hc1 : W1.cell? ⟨W.heap.size + 1, 0, none⟩ = some v := by rw [cell_of_row _ _ _ _ _ _ h1]; rfl
    have hcm1 : W1.cell? ⟨W.heap.size, 0, none⟩ = some (.int .i64 most) := (World.cell?_of_block (a := ⟨W.heap.size, 0, none⟩) (h5 W.heap.size (by omega) (by omega))).trans hm3
    have H2 := Lib.hid h2
    have H5 := Lib.hid h5
    have H3 := Lib.hid h3
    have hH3 : w3.heap.size ≤ H := by omega
    clear h2 h5 h3
    gi_wp2_with (gi_at_builtin; refine wpListIn_append_own _ rfl (.tmp 17) (.tmp 19) 38 rfl H 3 i0 (.int .i64 0) 1 8 Tryz.underlying38 hi hz0 hz1 hz2 rfl (by decide) v m (pre.map encI) rfl (H2.out.alloc _) ⟨W1.heap.size, 0, none⟩ 1 1 [.int .i64 x] rfl rfl ?c0 ?c1 ?c2 ?c3 ?c4 ?c5)
    case c0 =>
      intro j u hj
      match j, hj with
      | 0, hj => simp at hj; subst hj; simp [Addr.add]
    case c1 => intro u hu; simp at hu; subst hu; rfl
    case c2 => unfold maxLen; have hp := List.IsPrefix.length_le hT; rw [List.length_append, hm'] at hp; simp at hp; omega
    case c3 => have hp := List.IsPrefix.length_le hT; rw [List.length_append, hm'] at hp; simp at hp; omega
    case c4 => simp; omega
    case c5 =>
      intro v' W6 hown6 hgr6 _
      obtain ⟨g', cap', rfl⟩ := ownsRow_succ hown6
      obtain ⟨h16, hk6, hkp, hout⟩ := outI_next (w0 := W) (W2 := w3) (Bo := W.heap.size + 1) hm' (by omega) (by omega) hH3 h1 H2.out H3.out hHW H5.out hown6 hgr6
      have hc6 : W6.cell? ⟨W.heap.size + 1, 0, none⟩ = some v := by rw [cell_of_row _ _ _ _ _ _ h16]; rfl
      have hf6 : W6.frozen? ⟨W.heap.size + 1, 0, none⟩ = false := by simp [World.frozen?, h16]
      have hm6 : W6.cell? ⟨W.heap.size, 0, none⟩ = some (.int .i64 most) := (World.cell?_of_block (a := ⟨W.heap.size, 0, none⟩) (hk6 W.heap.size (by omega) (by omega))).trans hm3
      obtain ⟨W7, hW7⟩ : ∃ W7, W6.setCell ⟨W.heap.size + 1, 0, none⟩ (.slice (some ⟨g', 0, none⟩) (m + 1) cap') = W7 := ⟨_, rfl⟩
      have hc7 : W7.cell? ⟨W.heap.size + 1, 0, none⟩ = some (.slice (some ⟨g', 0, none⟩) (m + 1) cap') := by rw [← hW7]; exact World.cell?_setCell_same' _ _ _ (by rw [hc6]; rfl)
      have hm7 : W7.cell? ⟨W.heap.size, 0, none⟩ = some (.int .i64 most) := by rw [← hW7, World.cell?_setCell_other _ _ _ _ (by intro e; injection e with e; omega)]; exact hm6
      rw [hW7] at hkp hout
      have HKP := Lib.hid hkp
      have HOUT := Lib.hid hout
      have hpl : (pre ++ [x]).length = m + 1 := by rw [List.length_append, hm']; rfl
      clear hkp hout hk6 hown6 hgr6
      by_cases hge : most ≤ m + 1
      · have hgi : (most : Int) ≤ ((m + 1 : Nat) : Int) := by omega
        gi_wp2_with fail
        exact ⟨HKP.out, HOUT.out, rfl, by omega⟩
      · have hgi : ¬ (most : Int) ≤ ((m + 1 : Nat) : Int) := by omega
        gi_wp2_with fail
        exact ⟨HKP.out, HOUT.out, by omega⟩
  · rintro D H xs W4 hD hH hxs ⟨⟨v, h1, h2, h3, h4, h5⟩, hlen⟩ hK
    have hc1 : W4.cell? ⟨W.heap.size + 1, 0, none⟩ = some v := by rw [cell_of_row _ _ _ _ _ _ h1]; rfl
    have HTK : Hid (l.take most = xs) := by rw [Hid, hxs]; exact List.take_of_length_le (by rw [← hxs]; omega)
    have HO : Hid (W4.ownsRow W.heap.size 3 1 v xs.length (xs.map encI)) := owns_base h2 (by omega)
    have HB := Lib.hid h3
    have HK := Lib.hid hK
    clear h2 h3 h5 hK hxs
    obtain ⟨A', cc', rfl, hn1, hn2⟩ := owns_slice HO.out
    go_wp2_with fail
    refine ret_mark (v := .slice A' xs.length cc') HK.out (by simp [results, Tryz.results13, go_sem]) ?_
    rw [HTK.out]
    exact ⟨A', cc', rfl, owns_ownFrom HO.out (grownBy_putObj' _ _ _) (fun r e => by cases e; exact ⟨by omega, _, HK.out, rfl⟩), hn1, hn2, below_mark HB.out (by omega) HK.out⟩
  · rintro D H cc pre W4 hD hH hSp ⟨⟨v, h1, h2, h3, h4, h5⟩, rfl, hlen⟩ hK
    have hc1 : W4.cell? ⟨W.heap.size + 1, 0, none⟩ = some v := by rw [cell_of_row _ _ _ _ _ _ h1]; rfl
    have HTK : Hid (l.take most = pre) := by rw [← hlen]; exact (List.prefix_iff_eq_take.1 hSp).symm
    have HO : Hid (W4.ownsRow W.heap.size 3 1 v pre.length (pre.map encI)) := owns_base h2 (by omega)
    have HB := Lib.hid h3
    have HK := Lib.hid hK
    clear h2 h3 h5 hK hlen
    obtain ⟨A', cc', rfl, hn1, hn2⟩ := owns_slice HO.out
    go_wp2_with fail
    refine ret_mark (v := .slice A' pre.length cc') HK.out (by simp [results, Tryz.results13, go_sem]) ?_
    rw [HTK.out]
    exact ⟨A', cc', rfl, owns_ownFrom HO.out (grownBy_putObj' _ _ _) (fun r e => by cases e; exact ⟨by omega, _, HK.out, rfl⟩), hn1, hn2, below_mark HB.out (by omega) HK.out⟩
end Go.Proofs.YtdlblbhmeidhbaaGreatDoor
