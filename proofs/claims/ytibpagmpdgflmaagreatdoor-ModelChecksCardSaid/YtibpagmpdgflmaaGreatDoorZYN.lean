/- The iterator model.listed: a directory's names. Conditions: none. -/
import Derived.Test.YtibpagmpdgflmaaGreatDoorZYM
import Derived.Test.YtibpagmpdgflmaaGreatDoorZC8
namespace Go.Proofs.YtibpagmpdgflmaaGreatDoor
open Go.RowKit Go.Maps Go.Shelf
attribute [local go_sem] Oper.semAt_some

/-- The names that listed goes over. -/
def listedL (g : GrP) (root : Nat) (s : List UInt8) : List (List UInt8) :=
  if errAt offN g root s = 0 then (match g (nodeAt g root s) with | some nd => (match nd.kids with | some (_, D) => namesL D | none => []) | none => []) else []
def encT1 (x : List UInt8) : Array Value := #[.string (ofBytes x)]
set_option maxRecDepth 100000 in
set_option maxHeartbeats 4000000 in
theorem listed1_in (l T root N X Y : Nat) (g : GrP) (s : ByteArray) (hs : s.size < 4294967281) (hN : N ≤ 1000000) (J Jx : Nat → List (List UInt8) → World → Prop) (W : World) (h : TrAt W T root N g)
    (hJ : ∀ H, OwnFrom W.heap.size (J H))
    (hY : ∀ H pre x W1, W.heap.size ≤ H → H ≤ W1.heap.size → J H pre W1 → pre ++ [x] <+: listedL g root (bytesOf s) → Yields Tryz.prog l (encT1 x) W1 fun e W' =>
      (e = .returned (.bool true) ∧ J H (pre ++ [x]) W' ∧ Keeps W.heap.size 0 H W1 W') ∨ (e = .returned (.bool false) ∧ Jx H (pre ++ [x]) W' ∧ Keeps W.heap.size 0 H W1 W'))
    (hX : W.cell? ⟨X, 0, none⟩ = some (.pointer (some ⟨T, 0, none⟩))) (hYc : W.cell? ⟨Y, 0, none⟩ = some (.string s)) (h0 : ∀ H, W.heap.size ≤ H → J H [] W) :
    Calls Tryz.prog 170 #[.func (.yield l) #[] #[], .pointer (some ⟨X, 0, none⟩), .pointer (some ⟨Y, 0, none⟩)] W fun e W' => (∃ v, e = .returned v) ∧
      ((∃ H xs, W.heap.size ≤ H ∧ xs = listedL g root (bytesOf s) ∧ J H xs W') ∨ (∃ H pre, W.heap.size ≤ H ∧ pre <+: listedL g root (bytesOf s) ∧ Jx H pre W')) := by
  have HY := Lib.hid hY
  have H0 := Lib.hid h0
  have HJ := Lib.hid hJ
  obtain ⟨nm, hnm⟩ : ∃ nm, listedL g root (bytesOf s) = nm := ⟨_, rfl⟩
  have HNM : Hid (Calls Tryz.prog 88 #[.pointer (some ⟨T, 0, none⟩), .string s] W fun e w2 => ∃ A k c z, e = .returned (.tuple #[.slice A k c, .int .i64 z]) ∧ nm.length = k ∧ k ≤ c ∧ c ≤ maxLen ∧ RowAt w2 A (nm.map fun x => .string (ofBytes x)) ∧ FreshA W.heap.size A ∧ Below W.heap.size W w2) := by
    have := namesT_any g T root s W hs h.nodes h.rt h.tc (h.few.more hN)
    unfold FoundR at this
    refine this.mono ?_
    rintro e w2 ⟨v, rfl, h1, h2, hb⟩
    by_cases hz : errAt offN g root (bytesOf s) = 0
    · obtain ⟨nd, hg, m, D, A, k, c, q0, rfl, q1, q2, q3, q4, q5⟩ := h1 hz
      have e1 : nm = namesL D := by rw [← hnm]; unfold listedL; rw [if_pos hz, hg]; simp only; rw [q0]
      rw [e1]
      exact ⟨A, k, c, _, rfl, q1, q2, q3, q4, q5, hb⟩
    · have e1 : nm = [] := by rw [← hnm]; unfold listedL; rw [if_neg hz]
      rw [h2 hz, e1]
      exact ⟨none, 0, 0, _, rfl, rfl, Nat.le_refl _, by simp [maxLen], RowAt.nil, .inl rfl, hb⟩
  rw [hnm] at HY ⊢
  clear hY h0 hJ hnm h
  refine (callsIn_wide (n := 10)).1 ?_
  refine callsIn_of_wp Tryz.func170 rfl trivial ?_ rfl
  simp only [Tryz.ntmps170, List.size_toArray, List.length_cons, List.length_nil, Nat.reduceAdd, Nat.reduceSub, Array.replicate_succ, Array.replicate_zero, List.push_toArray, List.append_toArray, List.nil_append, List.cons_append]
  refine wpIn_wide.2 ?_
  go_wp2_with (first
    | go_step3
    | (go_at_call 88; refine HNM.out.mono ?_; rintro e w2 ⟨A, k, c, z, rfl, hl, hkc, hcm, hr, hf, hb⟩; have HL := Lib.hid hl; have HR := Lib.hid hr; have HF := Lib.hid hf; have HB := Lib.hid hb; clear hl hr hf hb))
  refine (wpIn_wide (n := 10)).1 ?_
  gi_loopw [16] (fun i wr => ∃ j : Nat, i = .int .i64 j ∧ j ≤ k ∧ w2.heap.size ≤ wr.heap.size ∧ J w2.heap.size (nm.take j) wr ∧ Hid (∀ q, W.heap.size ≤ q → q < w2.heap.size → wr.heap[q]? = w2.heap[q]?)) (fun i _ => k + 1 - (intOf i).toNat)
  case atStart => exact ⟨0, rfl, Nat.zero_le _, Nat.le_refl _, OwnFrom.below (HJ.out _) (H0.out _ HB.out.size) HB.out, fun _ _ _ => rfl⟩
  case round =>
    obtain ⟨j, rfl, hj, hsz, hjj, hmine⟩ := hrel
    by_cases hlt : j < k
    · have hln := HL.out
      obtain ⟨x, hx⟩ : ∃ x, nm[j]? = some x := ⟨_, List.getElem?_eq_getElem (by have : nm.length = k := HL.out; omega)⟩
      obtain ⟨b, off, hA, hbw, hcell⟩ := HR.out (by rw [List.length_map]; have : nm.length = k := HL.out; omega)
      have hbg : W.heap.size ≤ b := by
        rcases HF.out with e | ⟨q, h1, e⟩
        · rw [hA] at e; cases e
        · rw [hA] at e; cases e; exact h1
      subst hA
      have hck : wr.cell? ⟨b, off + j, none⟩ = some (.string (ofBytes x)) := (World.cell?_of_block (w := w2) (hmine.out b hbg hbw)).trans (hcell j _ (by rw [List.getElem?_map, hx]; rfl))
      have hj0 : (0 : Int) ≤ (j : Int) := by omega
      have hjn : (j : Int) < (k : Int) := by omega
      have hk1 : IntKind.i64.wrap ((j : Int) + 1) = ((j + 1 : Nat) : Int) := by rw [IntWalk.i64_in _ (by unfold maxLen at hcm; omega)]; omega
      have htk : nm.take (j + 1) = nm.take j ++ [x] := by rw [List.take_add_one, hx]; rfl
      have hpre : nm.take j ++ [x] <+: nm := by rw [← htk]; exact List.take_prefix _ _
      obtain ⟨fn, tmps, assign, body, hy, hR⟩ := HY.out w2.heap.size (nm.take j) x wr HB.out.size hsz hjj hpre
      have HPRE := Lib.hid hpre
      have HTK := Lib.hid htk
      clear hcell hx hln hpre htk
      unfold encT1 at hy
      gi_wp2
      refine (hR _).mono ?_
      rintro e W3 (⟨rfl, hJ3, hk3⟩ | ⟨rfl, hJx3, _⟩)
      · gi_wp2
        go_roundw
        case rel => exact ⟨j + 1, rfl, by omega, Nat.le_trans hsz hk3.size, by rw [HTK.out]; exact hJ3, fun q h1 h2 => (hk3.mine q h1 h2).trans (hmine.out q h1 h2)⟩
        case measure => simp [intOf]; omega
      · gi_wp2
        rw [Exit.noGoto_normal]
        go_end0
        exact ⟨⟨_, rfl⟩, .inr ⟨w2.heap.size, _, HB.out.size, HPRE.out, hJx3⟩⟩
    · gi_wp2
      rw [Exit.noGoto_normal]
      go_end0
      refine ⟨⟨_, rfl⟩, .inl ⟨w2.heap.size, _, HB.out.size, ?_, hjj⟩⟩
      rw [List.take_of_length_le (by have : nm.length = k := HL.out; omega)]
theorem listed_iter (T root N X Y : Nat) (g : GrP) (s : ByteArray) (hs : s.size < 4294967281) (hN : N ≤ 1000000) (w : World) (h : TrAt w T root N g) (hX : w.cell? ⟨X, 0, none⟩ = some (.pointer (some ⟨T, 0, none⟩))) (hY : w.cell? ⟨Y, 0, none⟩ = some (.string s)) :
    Iter Tryz.prog 170 #[.pointer (some ⟨X, 0, none⟩), .pointer (some ⟨Y, 0, none⟩)] encT1 0 (fun xs => xs = listedL g root (bytesOf s)) (fun pre => pre <+: listedL g root (bytesOf s)) (fun pre x => pre ++ [x] <+: listedL g root (bytesOf s)) w :=
  fun l J Jx W hW hJ _ hYy h0 => listed1_in l T root N X Y g s hs hN J Jx W (h.below hW) hJ hYy ((hW.cell (p := ⟨X, 0, none⟩) (World.block_lt_of_cell? w ⟨X, 0, none⟩ hX)).trans hX) ((hW.cell (p := ⟨Y, 0, none⟩) (World.block_lt_of_cell? w ⟨Y, 0, none⟩ hY)).trans hY) h0
theorem listed_any (T : Nat) (s : ByteArray) (w : World) :
    Calls Tryz.prog 126 #[.pointer (some ⟨T, 0, none⟩), .string s] w fun e w' => e = .returned (.func (.func 170) #[] #[.pointer (some ⟨w.heap.size, 0, none⟩), .pointer (some ⟨w.heap.size + 1, 0, none⟩)]) ∧ w' = (w.alloc (.cells #[.pointer (some ⟨T, 0, none⟩)] 55)).alloc (.cells #[.string s] 9) := by
  have hmf : ∀ (fn : Fn) (first cap : Array Value) (w : World), (Instr.makeFunc fn first cap).run Tryz.prog w = .ok (.func fn first cap) w := fun _ _ _ _ => rfl
  go_enter Tryz.func126, Tryz.ntmps126
  go_wp2
  go_ret
  exact ⟨rfl, rfl⟩
end Go.Proofs.YtibpagmpdgflmaaGreatDoor
