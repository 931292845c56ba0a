/- The iterator slices.Chunk at bytes, eight at a time. Conditions: none. -/
import Derived.Test.YtdpooagnbmpinaaGreatDoorZW1
import Derived.Test.YtdpooagnbmpinaaGreatDoorZK7
namespace Go.Proofs.YtdpooagnbmpinaaGreatDoor
open Go.RowKit Go.Shelf
attribute [local go_sem] Oper.semAt_some

theorem range_prefix' {k n : Nat} (h : k < n) : List.range k ++ [k] <+: List.range n := by
  rw [← List.range_succ]
  have : List.range (k + 1) = (List.range n).take (k + 1) := by
    rw [List.take_range, Nat.min_eq_left (by omega)]
  rw [this]; exact List.take_prefix _ _
/-- The k-th eight of a row's bytes. -/
def encC (b off n : Nat) (k : Nat) : Array Value := #[.slice (some ⟨b, off + 8 * k, none⟩) (min 8 (n - 8 * k)) (min 8 (n - 8 * k))]
def ChunkQ (Bs Bn b off n c : Nat) (W : World) : Prop := W.cell? ⟨Bs, 0, none⟩ = some (.slice (some ⟨b, off, none⟩) n c) ∧ W.cell? ⟨Bn, 0, none⟩ = some (.int .i64 8)

set_option maxRecDepth 100000 in
set_option maxHeartbeats 2000000 in
theorem chunk1_in (l Bs Bn b off n c : Nat) (hn : n ≤ 4096) (hnc : n ≤ c) (hc : c ≤ maxLen) (J Jx : List Nat → World → Prop) (W : World)
    (hQ : ∀ pre W1, J pre W1 → ChunkQ Bs Bn b off n c W1)
    (hY : ∀ pre x W1, W.heap.size ≤ W1.heap.size → J pre W1 → pre ++ [x] <+: List.range ((n + 7) / 8) → Yields Tryz.prog l (encC b off n x) W1 fun e W' =>
      (e = .returned (.bool true) ∧ J (pre ++ [x]) W' ∧ Keeps W.heap.size 0 W.heap.size W1 W') ∨ (e = .returned (.bool false) ∧ Jx (pre ++ [x]) W' ∧ Keeps W.heap.size 0 W.heap.size W1 W'))
    (hJd : ∀ pre W1, J pre W1 → J pre W1.drew) (h0 : J [] W) :
    Calls Tryz.prog 264 #[.func (.yield l) #[] #[], .pointer (some ⟨Bs, 0, none⟩), .pointer (some ⟨Bn, 0, none⟩)] W fun e W' => (∃ v, e = .returned v) ∧
      ((∃ xs, xs = List.range ((n + 7) / 8) ∧ J xs W') ∨ (∃ pre, pre <+: List.range ((n + 7) / 8) ∧ Jx pre W')) := by
  have HY := Lib.hid hY
  have HQ := Lib.hid hQ
  have HJ := Lib.hid h0
  have HJD := Lib.hid hJd
  clear hY h0 hQ hJd
  unfold maxLen at hc
  refine (callsIn_wide (n := 10)).1 ?_
  refine callsIn_of_wp Tryz.func264 rfl trivial ?_ rfl
  simp only [Tryz.ntmps264, List.size_toArray, List.length_cons, List.length_nil, Nat.reduceAdd, Nat.reduceSub, Array.replicate_succ, Array.replicate_zero, List.push_toArray, List.append_toArray, List.nil_append, List.cons_append]
  gi_wp2
  gi_loopw [4] (fun i wr => ∃ k p : Nat, i = .int .i64 p ∧ p = 8 * k ∧ k ≤ (n + 7) / 8 ∧ W.heap.size ≤ wr.heap.size ∧ J (List.range k) wr) (fun i _ => n + 8 - (intOf i).toNat)
  case atStart => exact ⟨0, 0, rfl, rfl, Nat.zero_le _, Nat.le_refl _, HJ.out⟩
  case round =>
    obtain ⟨k, p, rfl, hp, hk, hsz, hj⟩ := hrel
    have HP := Lib.hid hp
    have hp' : p < n + 8 := by omega
    obtain ⟨hcs, hcn⟩ := HQ.out _ _ hj
    have HJ1 := Lib.hid hj
    by_cases hlt : p < n
    · have hkl : k < (n + 7) / 8 := by omega
      obtain ⟨m, HM, hm1, hm2, hm0⟩ : ∃ m : Nat, Hid (min 8 (n - 8 * k) = m) ∧ m ≤ 8 ∧ p + m ≤ n ∧ 0 < m := ⟨_, rfl, by omega, by omega, by omega⟩
      have HM' : Hid (min (8 : Int) ((n - p : Nat) : Int) = (m : Int)) := by
        have := HM.out
        rw [Hid]; omega
      clear hp hj hk
      gi_wp2
      rename_i KK hKK
      have HKK := Lib.hid hKK
      clear hKK
      have hmx : Tryz.prog.follows .mixedOrders = true := by kernel_rfl
      refine whichever_region (fun w2 => ChunkQ Bs Bn b off n c w2) [] hmx ?_
      have hS0 : ChunkQ Bs Bn b off n c wr.drew := ⟨hcs, hcn⟩
      refine whichever_take 0 (.int .i64 8) [5, 6] rfl (by kernel_rfl) (fun _ _ _ h => h) hS0 (by rfl) (fun w hw => ?_) ?_
      · obtain ⟨hw1, hw2⟩ := hw
        constructor <;> go_simp
      refine whichever_take 1 (.slice (some ⟨b, off, none⟩) n c) [3, 4, 5, 6] rfl (by kernel_rfl) (fun _ _ _ h => h) hS0 (by rfl) (fun w hw => ?_) ?_
      · obtain ⟨hw1, hw2⟩ := hw
        constructor <;> go_simp
      refine whichever_take 2 (.int .i64 p) [3, 4, 5, 6] rfl (by kernel_rfl) (fun _ _ _ h => h) hS0 (by rfl) (fun w hw => ?_) ?_
      · constructor <;> go_simp
      have hq1 : (0 : Int) ≤ (p : Int) := by omega
      have hq2 : (p : Int) ≤ (n : Int) := by omega
      refine whichever_take 3 (.slice (some ⟨b, off + p, none⟩) (n - p) (c - p)) [4, 5, 6] rfl (by kernel_rfl) (fun _ _ _ h => h) hS0 (by rfl) (fun w hw => ?_) ?_
      · constructor <;> go_simp
        intro h; omega
      refine whichever_take 4 (.int .i64 (n - p : Nat)) [5, 6] rfl (by kernel_rfl) (fun _ _ _ h => h) hS0 (by rfl) (fun w hw => ?_) ?_
      · constructor <;> go_simp
      refine whichever_take 5 (.int .i64 m) [6] rfl (by kernel_rfl) (fun _ _ _ h => h) hS0 (by rfl) (fun w hw => ?_) ?_
      · constructor <;> go_simp
        have h1 := HM.out
        have h2 := HP.out
        split <;> omega
      refine whichever_take 6 (.int .i64 m) [] rfl (by kernel_rfl) (fun _ _ _ h => h) hS0 (by rfl) (fun w hw => ?_) ?_
      · constructor <;> go_simp
      refine whichever_end (by kernel_rfl) ?_
      go_simp
      refine HKK.out _ _ ?_
      have hj2 := HJD.out _ _ HJ1.out
      have HENC : Hid (encC b off n k = #[.slice (some ⟨b, off + p, none⟩) m m]) := by rw [Hid, encC, HM.out, HP.out]
      have HYY := HY.out (List.range k) k wr.drew hsz hj2 (range_prefix' hkl)
      rw [HENC.out] at HYY
      obtain ⟨fn, tmps, assign, body, hy, hR⟩ := HYY
      have HRR := Lib.hid hR
      clear hR hj2 hS0 hp'
      gi_wp2
      refine (HRR.out _).mono ?_
      rintro e W3 (⟨rfl, hJ3, hk3⟩ | ⟨rfl, hJx3, _⟩)
      · have hQ3 := HQ.out _ _ hJ3
        obtain ⟨hcs3, hcn3⟩ := hQ3
        have HJ3 := Lib.hid hJ3
        have HSZ := Lib.hid hk3.size
        clear hJ3 hk3
        gi_wp2
        go_roundw
        case rel => exact ⟨k + 1, p + 8, by go_num, by rw [HP.out]; omega, by omega, Nat.le_trans hsz HSZ.out, by rw [List.range_succ]; exact HJ3.out⟩
        case measure => simp [intOf]; omega
      · gi_wp2
        refine bodyPost_ret (results_none rfl _ _ _) rfl ?_
        refine ⟨⟨_, rfl⟩, .inr ⟨_, ?_, hJx3⟩⟩
        exact range_prefix' hkl
    · have hkn : k = (n + 7) / 8 := by omega
      clear hp hk hp'
      gi_wp2
      go_end0
      refine ⟨⟨_, rfl⟩, .inl ⟨_, ?_, HJ1.out⟩⟩
      rw [hkn]

theorem chunk_iter (Bs Bn b off n c : Nat) (hn : n ≤ 4096) (hnc : n ≤ c) (hc : c ≤ maxLen) (w : World) :
    IterQ Tryz.prog 264 #[.pointer (some ⟨Bs, 0, none⟩), .pointer (some ⟨Bn, 0, none⟩)] (encC b off n) 0 (ChunkQ Bs Bn b off n c)
      (fun xs => xs = List.range ((n + 7) / 8)) (fun pre => pre <+: List.range ((n + 7) / 8)) (fun pre x => pre ++ [x] <+: List.range ((n + 7) / 8)) w :=
  fun l J Jx W _ hJo _ hQ hY h0 => (chunk1_in l Bs Bn b off n c hn hnc hc (J W.heap.size) (Jx W.heap.size) W (fun _ W1 h => hQ W.heap.size _ W1 h) (fun pre x W1 hs hj hlen => hY W.heap.size pre x W1 (Nat.le_refl _) hs hj hlen)
      (fun _ _ h => OwnFrom.below (hJo _) h (Below.refl _ _).drew) (h0 _ (Nat.le_refl _))).mono
    fun _ _ ⟨hv, h⟩ => ⟨hv, h.elim (fun ⟨xs, h1, h2⟩ => .inl ⟨_, xs, Nat.le_refl _, h1, h2⟩) (fun ⟨xs, h1, h2⟩ => .inr ⟨_, xs, Nat.le_refl _, h1, h2⟩)⟩

theorem chunk_any (v : Value) (w : World) (hv : v.oneCell' = true) :
    Calls Tryz.prog 237 #[v, .int .i64 8] w fun e w' => e = .returned (.func (.func 264) #[] #[.pointer (some ⟨w.heap.size, 0, none⟩), .pointer (some ⟨w.heap.size + 1, 0, none⟩)]) ∧ w' = (w.alloc (.cells #[v] 26)).alloc (.cells #[.int .i64 8] 3) := by
  go_enter Tryz.func237, Tryz.ntmps237
  go_wp2
  go_ret
  exact ⟨rfl, rfl⟩
end Go.Proofs.YtdpooagnbmpinaaGreatDoor
