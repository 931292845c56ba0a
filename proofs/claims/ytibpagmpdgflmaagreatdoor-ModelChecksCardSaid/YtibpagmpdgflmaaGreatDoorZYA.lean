/- Contracts of file's begun, reach, Cut, Write, at any bytes. The contract of file.Cut, at any bytes. The contract of file.Write, at any bytes. The contract of file.Write, at any bytes. Conditions: none. -/
import Derived.Test.YtibpagmpdgflmaaGreatDoorZYD
import Derived.Test.YtibpagmpdgflmaaGreatDoorZF4
namespace Go.Proofs.YtibpagmpdgflmaaGreatDoor
open Go.RowKit
attribute [local go_sem] Oper.semAt_some

theorem zeroCells_list (z : Value) (m : Nat) : Builtin.zeroCells #[z] m = (List.replicate m z).toArray := by
  apply Array.ext
  · rw [size_zeroCells]; simp
  · intro i h1 h2
    have h3 : i < m := by rw [size_zeroCells] at h1; simpa using h1
    have := zeroCells_get m i z h3
    rw [Array.getElem?_eq_getElem h1] at this
    injection this with this
    rw [this]
    simp
theorem run_append_made {P : Program} (w : World) (base : Nat) (t u ty e : TypeId) (i : TypeInfo) (z : Value) (ht : P.underlying t = some (.slice e)) (hu : P.underlying u = some (.int .i64)) (hi : P.info? e = some i) (hz : i.zero = some z)
    (hb : i.bytes = 1) (hs : i.size = 1) (hzc : z.cells = #[z]) (hz1 : z.oneCell' = true) (v : Value) (n : Nat) (xs : List Value) (hown : w.ownsRow base e 1 v n xs) (m : Nat) (hm : 0 < m) (hnm : n + m ≤ 448) (hbase : base ≤ w.heap.size) :
    ∃ v' w', (Builtin.append_ #[t, u] ty #[v, .int .i64 m]).run P w = .ok v' w' ∧ w'.ownsRow base e 1 v' (n + m) (xs ++ List.replicate m z) ∧ w.grownBy w' v.ownBlock ∧ ∀ g, v'.ownBlock = some g → v.ownBlock = some g ∨ g = w.heap.size := by
  have hm0 : m ≠ 0 := by omega
  have h1 : ¬ ((m : Int) < 0) := by omega
  have h2 : ¬ (281474976710656 < (m : Int)) := by omega
  have hw : IntKind.i64.wrap (m : Int) = m := IntWalk.i64_in _ (by omega)
  have hlen : (xs ++ List.replicate m z).length = (n + m) * 1 := by rw [List.length_append, hown.1, List.length_replicate]; omega
  have grown : ∀ (old : Nat), old < n + m → ∀ (row : Option Nat),
      (w.drew.alloc (.cells (xs.toArray ++ (List.replicate m z).toArray ++ Builtin.zeroCells z.cells (grownCap w (n + m) old e - (n + m))) e)).ownsRow base e 1
        (.slice (some ⟨w.heap.size, 0, none⟩) (n + m) (grownCap w (n + m) old e)) (n + m) (xs ++ List.replicate m z) ∧
      w.grownBy (w.drew.alloc (.cells (xs.toArray ++ (List.replicate m z).toArray ++ Builtin.zeroCells z.cells (grownCap w (n + m) old e - (n + m))) e)) row := by
    intro old ho row
    have hge := grownCap_ge w (n + m) old e
    have hcm : grownCap w (n + m) old e ≤ maxLen := grownCap_le_maxLen w (n + m) old e (by unfold maxLen; omega)
    refine ⟨⟨hlen, .inr ⟨w.heap.size, _, _, rfl, hbase, heap_alloc_new w.drew _, hge, hcm, ?_, ?_⟩⟩, ⟨rfl, rfl, rfl, by simp, fun k hk _ => heap_alloc_old w.drew _ k hk⟩⟩
    · simp only [Array.size_append, List.size_toArray, size_zeroCells, hzc, hown.1, List.length_replicate]
      simp
      omega
    · simp only [Array.toList_append, List.append_assoc]
      rw [← List.append_assoc, ← hlen]
      exact List.take_left
  rcases hown.2 with ⟨rfl, rfl⟩ | ⟨g, cap, cur, rfl, hbg, hg, hnc, hcm, hcs, htake⟩
  · have hx : xs = [] := List.eq_nil_of_length_eq_zero (by simpa using hown.1)
    subst hx
    have hr := run_append_make (P := P) w t u ty e i z ht hu hi hz m hm (by omega) hb hs
    have hgr := grown 0 (by omega) (Value.ownBlock (.slice none 0 0))
    rw [hzc, zeroCells_list] at hr
    simp only [Nat.zero_add, List.nil_append, Array.empty_append, hzc] at hgr hr ⊢
    exact ⟨_, _, hr, hgr.1, hgr.2, fun g hg => .inr (by simpa [Value.ownBlock] using hg.symm)⟩
  · by_cases hroom : n + m ≤ cap
    · have hfit : n * 1 + (List.replicate m z).length ≤ cur.size := by rw [hcs, List.length_replicate]; omega
      have hst := run_storeCells_at P g (n * 1) e (List.replicate m z) 0 cur w hg (by simpa using hfit) (fun u hu => by rw [(List.mem_replicate.1 hu).2]; exact hz1)
      simp only [Nat.add_zero] at hst
      have hr : (Builtin.append_ #[t, u] ty #[.slice (some ⟨g, 0, none⟩) n cap, .int .i64 m]).run P w = .ok (.slice (some ⟨g, 0, none⟩) (n + m) cap) (w.setRow g (cur.toList.take (n * 1) ++ List.replicate m z ++ cur.toList.drop (n * 1 + (List.replicate m z).length)).toArray) := by
        simp [Builtin.append_, run_underlying ht, run_underlying hu, sizeOf, typeInfo, zeroValue, hi, hz, hb, hs, asInt, asIntOf, hw, h1, h2, hm0, hroom, hzc, zeroCells_list, Addr.add_lit, hst]
        have hst2 := hst
        simp at hst2
        rw [hst2]
        rfl
      refine ⟨_, _, hr, ⟨hlen, .inr ⟨g, cap, _, rfl, hbg, setRow_heap w g cur _ e _ hg, hroom, hcm, ?_, ?_⟩⟩, ⟨rfl, rfl, rfl, by simp, fun k _ hk => setRow_other w g k _ (fun e => hk (by simp [Value.ownBlock, e]))⟩, fun g' hg' => .inl hg'⟩
      · simp only [List.size_toArray, List.length_append, List.length_take, List.length_drop, Array.length_toList]
        omega
      · rw [htake, ← hlen]
        exact List.take_left
    · have holds : ∀ j u, xs[j]? = some u → w.cell? ((⟨g, 0, none⟩ : Addr).add j) = some u := hown.cells (g := g) rfl
      have h3 : ¬ (9223372036854775807 < ((n : Int) + (m : Int))) := by omega
      have h4 : ¬ (281474976710656 < Builtin.nextslicecap (n + m) cap) := by have := nextslicecap_le (need := n + m) (old := cap) (by omega); omega
      have hfo := run_firstCells_some (P := P) w.drew 1 n ⟨g, 0, none⟩ n cap xs hown.1 (by simpa using holds)
      have hr : (Builtin.append_ #[t, u] ty #[.slice (some ⟨g, 0, none⟩) n cap, .int .i64 m]).run P w = .ok (.slice (some ⟨w.heap.size, 0, none⟩) (n + m) (grownCap w (n + m) cap e)) (w.drew.alloc (.cells (xs.toArray ++ (List.replicate m z).toArray ++ Builtin.zeroCells z.cells (grownCap w (n + m) cap e - (n + m))) e)) := by
        simp [Builtin.append_, run_underlying ht, run_underlying hu, sizeOf, typeInfo, zeroValue, hi, hz, hb, hs, asInt, asIntOf, hw, h1, h2, hm0, hroom, hzc, h3, h4, zeroCells_list, Question.forced, hfo, newRow, grownCap]
      have hgr := grown cap (by omega) (Value.ownBlock (.slice (some ⟨g, 0, none⟩) n cap))
      exact ⟨_, _, hr, hgr.1, hgr.2, fun g hg => .inr (by simpa [Value.ownBlock] using hg.symm)⟩
/-- A file under way: its bytes, in a row of its own. -/
structure DatAt (base X : Nat) (W : World) (v : Value) (k : Nat) (bs : List UInt8) : Prop where
  cell : W.cell? ⟨X, 0, none⟩ = some v
  frz : W.frozen? ⟨X, 0, none⟩ = false
  row : W.ownsRow base 5 1 v k (bs.map encB)
  ge : base ≤ X
  ne : ∀ g, v.ownBlock = some g → g ≠ X
theorem DatAt.len {base X k : Nat} {W : World} {v : Value} {bs : List UInt8} (h : DatAt base X W v k bs) : bs.length = k := by
  have := h.row.1
  rw [List.length_map] at this
  omega
theorem begun_own (A : Option Addr) (k c : Nat) (bs : List UInt8) (W : World) (hl : bs.length = k) (hk : k ≤ 100000) (hP : PlainA A) (h : RowAt W A (bs.map encB)) :
    Calls Tryz.prog 154 #[.slice A k c] W fun e W' => ∃ X v, e = .returned (.pointer (some ⟨X, 0, none⟩)) ∧ DatAt W.heap.size X W' v k bs ∧ Below W.heap.size W W' := by
  have HCL : Hid (Calls Tryz.prog 83 #[.slice A k c] W fun e w' => ∃ v, e = .returned v ∧ w'.ownsRow W.heap.size 5 1 v k (bs.map encB) ∧ Below W.heap.size W w') := by
    rw [Hid]
    rcases hP with rfl | ⟨b, off, rfl⟩
    · obtain rfl : bs = [] := by
        cases bs with
        | nil => rfl
        | cons x l => obtain ⟨_, _, e, _⟩ := h (by simp); cases e
      obtain rfl : k = 0 := by simpa using hl.symm
      refine (AnyE.slices_Clone_nil Tryz.cloneByte 0 c W).mono ?_
      rintro e w' ⟨rfl, rfl⟩
      exact ⟨_, rfl, World.ownsRow_nil _ _ _ _, Below.refl _ _⟩
    · obtain ⟨i0, hi, hz0, hz1, hz2⟩ := info_parts Tryz.infoU8
      have hc := AnyE.slices_Clone Tryz.cloneByte i0 (.int .u8 0) 1 1 hi hz0 hz1 hz2 rfl (by decide) Tryz.sizeOf5 b off k c (bs.map encB) W (by rw [List.length_map, hl, Nat.mul_one]) (by unfold maxLen; omega) (by omega)
        (fun j u hu => by
          obtain ⟨b', off', e, _, hc⟩ := h.get hu
          cases e; exact hc)
        (fun u hu => by obtain ⟨x, _, rfl⟩ := List.mem_map.1 hu; rfl)
      change Calls Tryz.prog 83 _ _ _ at hc
      refine hc.mono ?_
      rintro e w' ⟨v, rfl, hown, _, hb⟩
      exact ⟨v, rfl, hown, hb⟩
  go_enter Tryz.func154, Tryz.ntmps154
  go_wp2_with (go_at_call 83; refine HCL.out.mono ?_; rintro e w3 ⟨v, rfl, ho, hb⟩; obtain ⟨A3, c3, rfl, h31, h32⟩ := ownsRow_slice ho; have HO := Lib.hid ho; clear ho)
  go_ret
  refine ⟨_, _, rfl, ⟨cell_new _ _ _ 0 _ rfl, by simp, HO.out.alloc _, hb.size, fun g hg => by have := (HO.out.lt g hg).2; omega⟩, hb.trans ((Below.refl _ _).alloc hb.size _)⟩
/-- Bytes, with noughts behind up to a size. -/
def extP (bs : List UInt8) (n : Nat) : List UInt8 := bs ++ List.replicate (n - bs.length) 0
theorem extP_length (bs : List UInt8) (n : Nat) : (extP bs n).length = max bs.length n := by unfold extP; rw [List.length_append, List.length_replicate]; omega
theorem extP_map (bs : List UInt8) (n m : Nat) (h : n - bs.length = m) : (extP bs n).map encB = bs.map encB ++ List.replicate m (.int .u8 0) := by
  unfold extP
  rw [List.map_append, h, List.map_replicate]
  rfl
set_option maxRecDepth 100000 in
set_option maxHeartbeats 4000000 in
theorem reach_own (base X n k : Nat) (v : Value) (bs : List UInt8) (W : World) (h : DatAt base X W v k bs) (hk : k ≤ 448) (hn : n ≤ 448) (hb : base ≤ W.heap.size) :
    Calls Tryz.prog 155 #[.pointer (some ⟨X, 0, none⟩), .int .i64 n] W fun e W' => e = .returned (.tuple #[]) ∧ (∃ v', DatAt base X W' v' (max k n) (extP bs n)) ∧ Below base W W' := by
  obtain ⟨i0, hi, hz0, hz1, hz2⟩ := info_parts Tryz.infoU8
  have hlen := h.len
  have c0 := h.cell
  have f0 := h.frz
  obtain ⟨A, c, rfl, h1, h2⟩ := ownsRow_slice h.row
  by_cases h0 : n ≤ k
  · have e1 : extP bs n = bs := by unfold extP; rw [show n - bs.length = 0 from by omega]; simp
    have e2 : max k n = k := by omega
    rw [e1, e2]
    have hne : ((n : Int) - (k : Int)) ≤ 0 := by omega
    have hd : decide (0 < ((n : Int) - (k : Int))) = false := decide_eq_false (by omega)
    go_enter Tryz.func155, Tryz.ntmps155
    go_wp2
    go_end0
    exact ⟨rfl, ⟨_, h⟩, Below.refl _ _⟩
  · obtain ⟨m, hm⟩ : ∃ m, n - k = m := ⟨_, rfl⟩
    have e2 : max k n = k + m := by omega
    have e3 : ((n : Int) - (k : Int)) = (m : Int) := by omega
    rw [e2]
    obtain ⟨v', w1, hrun, hown, hg, hwh⟩ := run_append_made (P := Tryz.prog) W base 25 3 25 5 i0 (.int .u8 0) Tryz.underlyingBytes Tryz.underInt hi hz0 hz2 hz1 rfl rfl _ k _ h.row m (by omega) (by omega) hb
    have hap : ∀ ty, (Builtin.append_ #[25, 3] ty #[.slice A k c, .int .i64 m]).run Tryz.prog W = .ok v' w1 := fun _ => hrun
    have hne : ¬ ((m : Int) ≤ 0) := by omega
    have hpos : decide (0 < (m : Int)) = true := decide_eq_true (by omega)
    have hXl : X < W.heap.size := World.block_lt_of_cell? W ⟨X, 0, none⟩ c0
    have hbX : w1.heap[X]? = W.heap[X]? := hg.block X hXl (fun e => h.ne X e.symm rfl)
    have c1 : w1.cell? ⟨X, 0, none⟩ = some (.slice A k c) := (World.cell?_of_block (w := W) hbX).trans c0
    have f1 : w1.frozen? ⟨X, 0, none⟩ = false := (World.frozen?_of_block (w := W) hbX).trans f0
    rw [← extP_map bs n m (by omega)] at hown
    obtain ⟨A', c', rfl, h1', h2'⟩ := ownsRow_slice hown
    have hge : ∀ g, Value.ownBlock (.slice A k c) = some g → base ≤ g := fun g e => (h.row.lt g e).1
    have hne' : ∀ g, Value.ownBlock (.slice A' (k + m) c') = some g → g ≠ X := fun g e => by
      rcases hwh g e with e | e
      · exact h.ne g e
      · omega
    have HO := Lib.hid hown
    have HNE := Lib.hid hne'
    have HG := Lib.hid hg
    have HGE := Lib.hid hge
    clear hown hne' hg hge
    go_enter Tryz.func155, Tryz.ntmps155
    go_wp2_with (at_builtin; refine wpList_append_known rfl _ _ _ _ rfl _ _ _ _ rfl rfl (fun ty => hap ty) ?_)
    go_end0
    have hB : Below base W w1 := (Below.refl base W).grown HG.out hb fun j hj => HGE.out j hj
    refine ⟨rfl, ⟨_, World.cell?_setCell_same' _ _ _ (by rw [c1]; rfl), (World.frozen?_setCell _ _ _ _).trans f1, HO.out.kept (row := some X) ⟨rfl, rfl, rfl, by simp [World.setCell], fun b _ hb => Below.heap_setCell _ _ _ b (fun e => hb (by rw [e]))⟩ (.inr fun e => HNE.out X e rfl), h.ge, HNE.out⟩, hB.setCell h.ge _⟩
end Go.Proofs.YtibpagmpdgflmaaGreatDoor

namespace Go.Proofs.YtibpagmpdgflmaaGreatDoor
open Go.RowKit
attribute [local go_sem] Oper.semAt_some

theorem own_below' {w w' : World} {base : Nat} {e : TypeId} {size : Nat} {v : Value} {n : Nat} {xs : List Value} (h : w.ownsRow base e size v n xs) (hb : Below w.heap.size w w') : w'.ownsRow base e size v n xs :=
  h.kept (row := none) ⟨hb.os, hb.tape, hb.output, hb.size, fun k hk _ => hb.block k hk⟩ (by cases hv : v.ownBlock <;> simp)
theorem DatAt.below {base X k : Nat} {W W' : World} {v : Value} {bs : List UInt8} (h : DatAt base X W v k bs) (hb : Below W.heap.size W W') : DatAt base X W' v k bs :=
  have hX : X < W.heap.size := World.block_lt_of_cell? W ⟨X, 0, none⟩ h.cell
  ⟨(hb.cell (p := ⟨X, 0, none⟩) hX).trans h.cell, (hb.frozen (p := ⟨X, 0, none⟩) hX).trans h.frz, own_below' h.row hb, h.ge, h.ne⟩
theorem own_fresh {w : World} {base : Nat} {e : TypeId} {size : Nat} {A : Option Addr} {n c : Nat} {xs : List Value} (h : w.ownsRow base e size (.slice A n c) n xs) : FreshA base A := by
  rcases h.2 with ⟨h3, _⟩ | ⟨g, cap', cur, h3, h4, _⟩
  · cases h3; exact .inl rfl
  · cases h3; exact .inr ⟨g, h4, rfl⟩
theorem own_some {w : World} {base : Nat} {e : TypeId} {size : Nat} {v : Value} {n : Nat} {xs : List Value} (h : w.ownsRow base e size v n xs) (hn : 0 < n) : ∃ g c, v = .slice (some ⟨g, 0, none⟩) n c ∧ base ≤ g ∧ n ≤ c ∧ c ≤ maxLen := by
  rcases h.2 with ⟨_, h2⟩ | ⟨g, cap, cur, h1, h2, _, h3, h4, _⟩
  · omega
  · exact ⟨g, cap, h1, h2, h3, h4⟩
theorem own_free {w : World} {base : Nat} {e : TypeId} {size g n c : Nat} {xs : List Value} (h : w.ownsRow base e size (.slice (some ⟨g, 0, none⟩) n c) n xs) (i : Nat) : w.frozen? ⟨g, i, none⟩ = false := by
  rcases h.2 with ⟨h1, _⟩ | ⟨g', cap, cur, h1, _, h2, _⟩
  · cases h1
  · cases h1
    unfold World.frozen?
    simp [h2]
/-- Cut's error. -/
def cutG (k : Nat) (n : Int) : Int := if n < 0 then 2 else if 448 < k ∨ 448 < n then 190 else 0
def CutR (k : Nat) (n : Int) (bs : List UInt8) (W : World) (e : Ending) (W' : World) : Prop :=
  (if cutG k n = 0 then ∃ A', e = .returned (.tuple #[.slice A' n.toNat n.toNat, .int .i64 0]) ∧ RowAt W' A' (((extP bs n.toNat).take n.toNat).map encB) ∧ FreshA W.heap.size A'
    else e = .returned (.tuple #[.slice none 0 0, .int .i64 (cutG k n)])) ∧ Below W.heap.size W W'
theorem CutR.bad {k : Nat} {n z : Int} {bs : List UInt8} {W W' : World} (h : cutG k n = z) (hz : z ≠ 0) (hb : Below W.heap.size W W') : CutR k n bs W (.returned (.tuple #[.slice none 0 0, .int .i64 z])) W' := by
  subst h
  exact ⟨by rw [if_neg hz], hb⟩
theorem CutR.good {k m : Nat} {bs : List UInt8} {W W' : World} {A' : Option Addr} (h : cutG k m = 0) (hr : RowAt W' A' (((extP bs m).take m).map encB)) (hf : FreshA W.heap.size A') (hb : Below W.heap.size W W') : CutR k m bs W (.returned (.tuple #[.slice A' m m, .int .i64 0])) W' :=
  ⟨by rw [if_pos h, Int.toNat_natCast]; exact ⟨A', rfl, hr, hf⟩, hb⟩
set_option maxRecDepth 100000 in
set_option maxHeartbeats 4000000 in
theorem cut_any (A : Option Addr) (k c : Nat) (n : Int) (bs : List UInt8) (W : World) (hl : bs.length = k) (hk : k ≤ 100000) (hP : PlainA A) (h : RowAt W A (bs.map encB)) :
    Calls Tryz.prog 109 #[.slice A k c, .int .i64 n] W (CutR k n bs W) := by
  have HBG := Lib.hid (begun_own A k c bs W hl hk hP h)
  clear h hP
  by_cases h1 : n < 0
  · have e1 : cutG k n = 2 := by unfold cutG; rw [if_pos h1]
    go_enter Tryz.func109, Tryz.ntmps109
    have hd : decide (n < 0) = true := decide_eq_true h1
    go_wp2_with fail
    refine wp_scope_fwd 1 ?_
    go_wp2_with (first | go_step3 | (go_at_call 154; refine HBG.out.mono ?_; rintro e w2 ⟨X, v, rfl, hdt, hb⟩))
    refine fwd_goto _ rfl ?_
    go_wp2_with go_step3
    rw [fwd_ret]
    refine bodyPost_ret (v := .tuple #[.slice none 0 0, .int .i64 2]) (by simp [results, Tryz.results109, go_sem]) rfl ?_
    exact CutR.bad e1 (by decide) hb
  · have hd : decide (n < 0) = false := decide_eq_false h1
    obtain ⟨m, rfl⟩ : ∃ m : Nat, n = m := ⟨n.toNat, by omega⟩
    by_cases h2 : 448 < k ∨ 448 < (m : Int)
    · have e1 : cutG k m = 190 := by unfold cutG; rw [if_neg h1, if_pos h2]
      have hq : (!([(k : Int), (m : Int)].any fun x => decide (448 < x))) = false := by
        simp
        omega
      have HF : Hid (∀ w : World, Calls Tryz.prog 156 #[.slice (some ⟨w.heap.size, 0, none⟩) 2 2] (w.alloc (.cells #[.int .i64 k, .int .i64 m] 3)) fun e w3 => e = .returned (.bool false) ∧ Below w.heap.size w w3) := fun w => by
        have := fitsL_any [(k : Int), (m : Int)] 2 w.heap.size (w.alloc (.cells #[.int .i64 k, .int .i64 m] 3)) rfl (by omega) (fun j x hj => by
          match j, hj with
          | 0, hj => cases hj; exact cell_new _ _ _ 0 _ rfl
          | 1, hj => cases hj; exact cell_new _ _ _ 1 _ rfl)
        rw [hq] at this
        refine this.mono ?_
        rintro e w3 ⟨rfl, hb⟩
        exact ⟨rfl, ((Below.refl _ _).alloc (Nat.le_refl _) _).trans (hb.mono (by simp))⟩
      go_enter Tryz.func109, Tryz.ntmps109
      go_wp2_with fail
      refine wp_scope_fwd 1 ?_
      go_wp2_with (first
        | go_step3
        | (go_at_call 154; refine HBG.out.mono ?_; rintro e w2 ⟨X, v, rfl, hdt, hb⟩)
        | (go_at_call 156; refine (HF.out _).mono ?_; rintro e w3 ⟨rfl, hb3⟩))
      refine fwd_goto _ rfl ?_
      go_wp2_with go_step3
      rw [fwd_ret]
      refine bodyPost_ret (v := .tuple #[.slice none 0 0, .int .i64 190]) (by simp [results, Tryz.results109, go_sem]) rfl ?_
      exact CutR.bad e1 (by decide) (hb.trans (hb3.mono hb.size))
    · have e1 : cutG k m = 0 := by unfold cutG; rw [if_neg h1, if_neg h2]
      have hq : (!([(k : Int), (m : Int)].any fun x => decide (448 < x))) = true := by
        simp
        omega
      have HF : Hid (∀ w : World, Calls Tryz.prog 156 #[.slice (some ⟨w.heap.size, 0, none⟩) 2 2] (w.alloc (.cells #[.int .i64 k, .int .i64 m] 3)) fun e w3 => e = .returned (.bool true) ∧ Below w.heap.size w w3) := fun w => by
        have := fitsL_any [(k : Int), (m : Int)] 2 w.heap.size (w.alloc (.cells #[.int .i64 k, .int .i64 m] 3)) rfl (by omega) (fun j x hj => by
          match j, hj with
          | 0, hj => cases hj; exact cell_new _ _ _ 0 _ rfl
          | 1, hj => cases hj; exact cell_new _ _ _ 1 _ rfl)
        rw [hq] at this
        refine this.mono ?_
        rintro e w3 ⟨rfl, hb⟩
        exact ⟨rfl, ((Below.refl _ _).alloc (Nat.le_refl _) _).trans (hb.mono (by simp))⟩
      have HRC := Lib.hid (fun X v w hd hb => reach_own W.heap.size X m k v bs w hd (by omega) (by omega) hb)
      go_enter Tryz.func109, Tryz.ntmps109
      go_wp2_with fail
      refine wp_scope_fwd 1 ?_
      go_wp2_with (first
        | go_step3
        | (go_at_call 154; refine HBG.out.mono ?_; rintro e w2 ⟨X, v, rfl, hdt, hb⟩; obtain ⟨A2, c2, rfl, h21, h22⟩ := ownsRow_slice hdt.row; have hcx := hdt.cell)
        | (go_at_call 156; refine (HF.out _).mono ?_; rintro e w3 ⟨rfl, hb3⟩)
        | (go_at_call 155; refine (HRC.out X _ _ (hdt.below hb3) (Nat.le_trans hb.size hb3.size)).mono ?_; rintro e w4 ⟨rfl, ⟨v4, hd4⟩, hb4⟩; obtain ⟨A4, c4, rfl, h41, h42⟩ := ownsRow_slice hd4.row; have hx4 := hd4.cell; have hk4 : (m : Int) ≤ (c4 : Int) := by omega))
      rw [fwd_ret]
      refine bodyPost_ret (v := .tuple #[.slice A4 m m, .int .i64 0]) (by simp [results, Tryz.results109, go_sem]) rfl ?_
      refine CutR.good e1 ?_ (own_fresh hd4.row) ((hb.trans (hb3.mono hb.size)).trans hb4)
      have hr := (row_of_own hd4.row).take m
      rw [← List.map_take] at hr
      exact hr
end Go.Proofs.YtibpagmpdgflmaaGreatDoor

namespace Go.Proofs.YtibpagmpdgflmaaGreatDoor
open Go.RowKit
attribute [local go_sem] Oper.semAt_some

theorem row_setCells {w : World} {g a : Nat} {xs ys : List Value} (h : RowAt w (some ⟨g, 0, none⟩) xs) (hl : a + ys.length ≤ xs.length) (hpos : 0 < xs.length) :
    RowAt (w.setCells g a ys) (some ⟨g, 0, none⟩) (xs.take a ++ ys ++ xs.drop (a + ys.length)) := fun _ => by
  obtain ⟨b, off, e, hb, hc⟩ := h hpos
  cases e
  have hsz : ∀ (vs : List Value) (o : Nat) (w : World), (w.setCells g o vs).heap.size = w.heap.size := by
    intro vs
    induction vs with
    | nil => intro o w; rfl
    | cons v r ih => intro o w; show ((w.setCell _ v).setCells g (o + 1) r).heap.size = _; rw [ih]; simp [World.setCell]
  refine ⟨g, 0, rfl, by rw [hsz]; exact hb, fun k u hu => ?_⟩
  rw [Nat.zero_add]
  have hc' : ∀ j v, xs[j]? = some v → w.cell? ⟨g, j, none⟩ = some v := fun j v hv => by have := hc j v hv; rwa [Nat.zero_add] at this
  rw [List.append_assoc, List.getElem?_append, List.length_take] at hu
  by_cases h1 : k < a
  · rw [if_pos (by omega), List.getElem?_take, if_pos h1] at hu
    rw [World.cell?_setCells_out g _ _ _ _ (fun _ _ => .inl h1)]
    exact hc' k u hu
  · rw [if_neg (by omega), show min a xs.length = a from by omega, List.getElem?_append] at hu
    by_cases h2 : k - a < ys.length
    · rw [if_pos h2, List.getElem?_eq_getElem h2] at hu
      have := World.cell?_setCells_in g ys a w (fun j hj => by
        rw [hc' (a + j) xs[a + j] (List.getElem?_eq_getElem (by omega))]; rfl) (k - a) h2
      rw [show a + (k - a) = k from by omega] at this
      rw [this]
      exact hu
    · rw [if_neg h2, List.getElem?_drop] at hu
      rw [World.cell?_setCells_out g _ _ _ _ (fun _ _ => .inr (by show a + ys.length ≤ k; omega))]
      exact hc' k u (by rw [← hu]; congr 1; omega)
/-- Write's error. -/
def writeG (k : Nat) (a : Int) (bl : Nat) : Int := if a < 0 then 2 else if 448 < k ∨ 448 < a ∨ 448 < a + bl then 190 else 0
/-- Write's bytes. -/
def writeP (bs : List UInt8) (a : Nat) (l : List UInt8) : List UInt8 := if l = [] then bs else (extP bs (a + l.length)).take a ++ l ++ (extP bs (a + l.length)).drop (a + l.length)
theorem writeP_length (bs : List UInt8) (a : Nat) (l : List UInt8) (h : l ≠ []) : (writeP bs a l).length = max bs.length (a + l.length) := by
  unfold writeP
  rw [if_neg h, List.length_append, List.length_append, List.length_take, List.length_drop, extP_length]
  omega
def WriteR (k : Nat) (a : Int) (bs l : List UInt8) (W : World) (e : Ending) (W' : World) : Prop :=
  (if writeG k a l.length = 0 then ∃ A' n' c', e = .returned (.tuple #[.slice A' n' c', .int .i64 0]) ∧ (writeP bs a.toNat l).length = n' ∧ n' ≤ c' ∧ c' ≤ maxLen ∧ RowAt W' A' ((writeP bs a.toNat l).map encB) ∧ FreshA W.heap.size A'
    else e = .returned (.tuple #[.slice none 0 0, .int .i64 (writeG k a l.length)])) ∧ Below W.heap.size W W'
theorem WriteR.bad {k : Nat} {a z : Int} {bs l : List UInt8} {W W' : World} (h : writeG k a l.length = z) (hz : z ≠ 0) (hb : Below W.heap.size W W') : WriteR k a bs l W (.returned (.tuple #[.slice none 0 0, .int .i64 z])) W' := by
  subst h
  exact ⟨by rw [if_neg hz], hb⟩
theorem WriteR.good {k p n' c' : Nat} {bs l : List UInt8} {W W' : World} {A' : Option Addr} (h : writeG k p l.length = 0) (h1 : (writeP bs p l).length = n') (h2 : n' ≤ c') (h3 : c' ≤ maxLen) (hr : RowAt W' A' ((writeP bs p l).map encB)) (hf : FreshA W.heap.size A') (hb : Below W.heap.size W W') : WriteR k p bs l W (.returned (.tuple #[.slice A' n' c', .int .i64 0])) W' :=
  ⟨by rw [if_pos h, Int.toNat_natCast]; exact ⟨A', n', c', rfl, h1, h2, h3, hr, hf⟩, hb⟩
set_option maxRecDepth 100000 in
set_option maxHeartbeats 8000000 in
theorem write_neg (A : Option Addr) (k c : Nat) (a : Int) (bs : List UInt8) (B : Option Addr) (bl bc : Nat) (l : List UInt8) (W : World) (hl : bs.length = k) (hk : k ≤ 100000) (hbl : l.length = bl) (hbm : bl ≤ maxLen) (hrow : RowAt W B (l.map encB))
    (HBG : Hid (Calls Tryz.prog 154 #[.slice A k c] W fun e W' => ∃ X v, e = .returned (.pointer (some ⟨X, 0, none⟩)) ∧ DatAt W.heap.size X W' v k bs ∧ Below W.heap.size W W')) (h1 : a < 0) :
    Calls Tryz.prog 105 #[.slice A k c, .int .i64 a, .slice B bl bc] W (WriteR k a bs l W) := by
  have hmf : ∀ (fn : Fn) (first cap : Array Value) (w : World), (Instr.makeFunc fn first cap).run Tryz.prog w = .ok (.func fn first cap) w := fun _ _ _ _ => rfl
  have t1 : True := trivial
  have hbl2 : (bl : Int) ≤ 9223372036854775807 := by unfold maxLen at hbm; omega
  have e1 : writeG k a bl = 2 := by unfold writeG; rw [if_pos h1]
  have hd : decide (a < 0) = true := decide_eq_true h1
  go_enter Tryz.func105, Tryz.ntmps105
  go_wp2_with fail
  refine wp_scope_fwd 1 ?_
  go_wp2_with (first | go_step3 | (go_at_call 154; refine HBG.out.mono ?_; rintro e w2 ⟨X, v, rfl, hdt, hb⟩))
  refine fwd_goto _ rfl ?_
  go_wp2_with go_step3
  rw [fwd_ret]
  refine bodyPost_ret (v := .tuple #[.slice none 0 0, .int .i64 2]) (by simp [results, Tryz.results105, go_sem]) rfl ?_
  exact WriteR.bad (by rw [hbl]; exact e1) (by decide) hb
set_option maxRecDepth 100000 in
set_option maxHeartbeats 8000000 in
theorem write_big (A : Option Addr) (k c : Nat) (p : Nat) (bs : List UInt8) (B : Option Addr) (bl bc : Nat) (l : List UInt8) (W : World) (hl : bs.length = k) (hk : k ≤ 100000) (hbl : l.length = bl) (hbm : bl ≤ maxLen) (hrow : RowAt W B (l.map encB))
    (HBG : Hid (Calls Tryz.prog 154 #[.slice A k c] W fun e W' => ∃ X v, e = .returned (.pointer (some ⟨X, 0, none⟩)) ∧ DatAt W.heap.size X W' v k bs ∧ Below W.heap.size W W')) (h2 : 448 < k ∨ 448 < p ∨ 448 < bl) :
    Calls Tryz.prog 105 #[.slice A k c, .int .i64 p, .slice B bl bc] W (WriteR k p bs l W) := by
  have hmf : ∀ (fn : Fn) (first cap : Array Value) (w : World), (Instr.makeFunc fn first cap).run Tryz.prog w = .ok (.func fn first cap) w := fun _ _ _ _ => rfl
  have t1 : True := trivial
  have hbl2 : (bl : Int) ≤ 9223372036854775807 := by unfold maxLen at hbm; omega
  have h1 : ¬ ((p : Int) < 0) := by omega
  have hd : decide ((p : Int) < 0) = false := decide_eq_false h1
  have e1 : writeG k p bl = 190 := by unfold writeG; rw [if_neg h1, if_pos (by omega)]
  have hq : (![(k : Int), (p : Int), (bl : Int)].any fun x => decide (448 < x)) = false := by simp; omega
  have HF : Hid (∀ w : World, Calls Tryz.prog 156 #[.slice (some ⟨w.heap.size, 0, none⟩) 3 3] (w.alloc (.cells #[.int .i64 k, .int .i64 p, .int .i64 bl] 3)) fun e w3 => e = .returned (.bool false) ∧ Below w.heap.size w w3) := fun w => by
    have := fitsL_any [(k : Int), (p : Int), (bl : Int)] 3 w.heap.size (w.alloc (.cells #[.int .i64 k, .int .i64 p, .int .i64 bl] 3)) rfl (by omega) (fun j x hj => by
      match j, hj with
      | 0, hj => cases hj; exact cell_new _ _ _ 0 _ rfl
      | 1, hj => cases hj; exact cell_new _ _ _ 1 _ rfl
      | 2, hj => cases hj; exact cell_new _ _ _ 2 _ rfl)
    rw [hq] at this
    refine this.mono ?_
    rintro e w3 ⟨rfl, hb⟩
    exact ⟨rfl, ((Below.refl _ _).alloc (Nat.le_refl _) _).trans (hb.mono (by simp))⟩
  go_enter Tryz.func105, Tryz.ntmps105
  go_wp2_with fail
  refine wp_scope_fwd 1 ?_
  go_wp2_with (first
    | go_step3
    | (go_at_call 154; refine HBG.out.mono ?_; rintro e w2 ⟨X, v, rfl, hdt, hb⟩)
    | (go_at_call 156; have _t := t1; refine (HF.out _).mono ?_; clear t1 _t; rintro e w3 ⟨rfl, hb3⟩))
  refine fwd_goto _ rfl ?_
  go_wp2_with go_step3
  rw [fwd_ret]
  refine bodyPost_ret (v := .tuple #[.slice none 0 0, .int .i64 190]) (by simp [results, Tryz.results105, go_sem]) rfl ?_
  exact WriteR.bad (by rw [hbl]; exact e1) (by decide) (hb.trans (hb3.mono hb.size))
set_option maxRecDepth 100000 in
set_option maxHeartbeats 8000000 in
theorem write_big2 (A : Option Addr) (k c : Nat) (p : Nat) (bs : List UInt8) (B : Option Addr) (bl bc : Nat) (l : List UInt8) (W : World) (hl : bs.length = k) (hk : k ≤ 100000) (hbl : l.length = bl) (hbm : bl ≤ maxLen) (hrow : RowAt W B (l.map encB))
    (HBG : Hid (Calls Tryz.prog 154 #[.slice A k c] W fun e W' => ∃ X v, e = .returned (.pointer (some ⟨X, 0, none⟩)) ∧ DatAt W.heap.size X W' v k bs ∧ Below W.heap.size W W')) (h2 : ¬ (448 < k ∨ 448 < p ∨ 448 < bl)) (h3 : 448 < p + bl) :
    Calls Tryz.prog 105 #[.slice A k c, .int .i64 p, .slice B bl bc] W (WriteR k p bs l W) := by
  have hmf : ∀ (fn : Fn) (first cap : Array Value) (w : World), (Instr.makeFunc fn first cap).run Tryz.prog w = .ok (.func fn first cap) w := fun _ _ _ _ => rfl
  have t1 : True := trivial
  have hbl2 : (bl : Int) ≤ 9223372036854775807 := by unfold maxLen at hbm; omega
  have h1 : ¬ ((p : Int) < 0) := by omega
  have hd : decide ((p : Int) < 0) = false := decide_eq_false h1
  have hq : (![(k : Int), (p : Int), (bl : Int)].any fun x => decide (448 < x)) = true := by simp; omega
  have HF : Hid (∀ w : World, Calls Tryz.prog 156 #[.slice (some ⟨w.heap.size, 0, none⟩) 3 3] (w.alloc (.cells #[.int .i64 k, .int .i64 p, .int .i64 bl] 3)) fun e w3 => e = .returned (.bool true) ∧ Below w.heap.size w w3) := fun w => by
    have := fitsL_any [(k : Int), (p : Int), (bl : Int)] 3 w.heap.size (w.alloc (.cells #[.int .i64 k, .int .i64 p, .int .i64 bl] 3)) rfl (by omega) (fun j x hj => by
      match j, hj with
      | 0, hj => cases hj; exact cell_new _ _ _ 0 _ rfl
      | 1, hj => cases hj; exact cell_new _ _ _ 1 _ rfl
      | 2, hj => cases hj; exact cell_new _ _ _ 2 _ rfl)
    rw [hq] at this
    refine this.mono ?_
    rintro e w3 ⟨rfl, hb⟩
    exact ⟨rfl, ((Below.refl _ _).alloc (Nat.le_refl _) _).trans (hb.mono (by simp))⟩
  have e1 : writeG k p bl = 190 := by unfold writeG; rw [if_neg h1, if_pos (by omega)]
  have hq1 : (![(p : Int) + (bl : Int)].any fun x => decide (448 < x)) = false := by simp; omega
  have HF1 : Hid (∀ w : World, Calls Tryz.prog 156 #[.slice (some ⟨w.heap.size, 0, none⟩) 1 1] (w.alloc (.cells #[.int .i64 ((p : Int) + (bl : Int))] 3)) fun e w3 => e = .returned (.bool false) ∧ Below w.heap.size w w3) := fun w => by
    have := fitsL_any [(p : Int) + (bl : Int)] 1 w.heap.size (w.alloc (.cells #[.int .i64 ((p : Int) + (bl : Int))] 3)) rfl (by omega) (fun j x hj => by
      match j, hj with
      | 0, hj => cases hj; exact cell_new _ _ _ 0 _ rfl)
    rw [hq1] at this
    refine this.mono ?_
    rintro e w3 ⟨rfl, hb⟩
    exact ⟨rfl, ((Below.refl _ _).alloc (Nat.le_refl _) _).trans (hb.mono (by simp))⟩
  go_enter Tryz.func105, Tryz.ntmps105
  go_wp2_with fail
  refine wp_scope_fwd 1 ?_
  go_wp2_with (first
    | go_step3
    | (go_at_call 154; refine HBG.out.mono ?_; rintro e w2 ⟨X, v, rfl, hdt, hb⟩)
    | (go_at_call 156; have _t := t1; refine (HF.out _).mono ?_; clear t1 _t; rintro e w3 ⟨rfl, hb3⟩)
    | (go_at_call 156; refine (HF1.out _).mono ?_; rintro e w4 ⟨rfl, hb4⟩))
  refine fwd_goto _ rfl ?_
  go_wp2_with go_step3
  rw [fwd_ret]
  refine bodyPost_ret (v := .tuple #[.slice none 0 0, .int .i64 190]) (by simp [results, Tryz.results105, go_sem]) rfl ?_
  exact WriteR.bad (by rw [hbl]; exact e1) (by decide) ((hb.trans (hb3.mono hb.size)).trans (hb4.mono (Nat.le_trans hb.size hb3.size)))
set_option maxRecDepth 100000 in
set_option maxHeartbeats 8000000 in
theorem write_none (A : Option Addr) (k c : Nat) (p : Nat) (bs : List UInt8) (B : Option Addr) (bl bc : Nat) (l : List UInt8) (W : World) (hl : bs.length = k) (hk : k ≤ 100000) (hbl : l.length = bl) (hbm : bl ≤ maxLen) (hrow : RowAt W B (l.map encB))
    (HBG : Hid (Calls Tryz.prog 154 #[.slice A k c] W fun e W' => ∃ X v, e = .returned (.pointer (some ⟨X, 0, none⟩)) ∧ DatAt W.heap.size X W' v k bs ∧ Below W.heap.size W W')) (h2 : ¬ (448 < k ∨ 448 < p ∨ 448 < bl)) (h3 : ¬ 448 < p + bl) (h0 : bl = 0) :
    Calls Tryz.prog 105 #[.slice A k c, .int .i64 p, .slice B bl bc] W (WriteR k p bs l W) := by
  have hmf : ∀ (fn : Fn) (first cap : Array Value) (w : World), (Instr.makeFunc fn first cap).run Tryz.prog w = .ok (.func fn first cap) w := fun _ _ _ _ => rfl
  have t1 : True := trivial
  have hbl2 : (bl : Int) ≤ 9223372036854775807 := by unfold maxLen at hbm; omega
  have h1 : ¬ ((p : Int) < 0) := by omega
  have hd : decide ((p : Int) < 0) = false := decide_eq_false h1
  have hq : (![(k : Int), (p : Int), (bl : Int)].any fun x => decide (448 < x)) = true := by simp; omega
  have HF : Hid (∀ w : World, Calls Tryz.prog 156 #[.slice (some ⟨w.heap.size, 0, none⟩) 3 3] (w.alloc (.cells #[.int .i64 k, .int .i64 p, .int .i64 bl] 3)) fun e w3 => e = .returned (.bool true) ∧ Below w.heap.size w w3) := fun w => by
    have := fitsL_any [(k : Int), (p : Int), (bl : Int)] 3 w.heap.size (w.alloc (.cells #[.int .i64 k, .int .i64 p, .int .i64 bl] 3)) rfl (by omega) (fun j x hj => by
      match j, hj with
      | 0, hj => cases hj; exact cell_new _ _ _ 0 _ rfl
      | 1, hj => cases hj; exact cell_new _ _ _ 1 _ rfl
      | 2, hj => cases hj; exact cell_new _ _ _ 2 _ rfl)
    rw [hq] at this
    refine this.mono ?_
    rintro e w3 ⟨rfl, hb⟩
    exact ⟨rfl, ((Below.refl _ _).alloc (Nat.le_refl _) _).trans (hb.mono (by simp))⟩
  have e1 : writeG k p bl = 0 := by unfold writeG; rw [if_neg h1, if_neg (by omega)]
  have hq1 : (![(p : Int) + (bl : Int)].any fun x => decide (448 < x)) = true := by simp; omega
  have HF1 : Hid (∀ w : World, Calls Tryz.prog 156 #[.slice (some ⟨w.heap.size, 0, none⟩) 1 1] (w.alloc (.cells #[.int .i64 ((p : Int) + (bl : Int))] 3)) fun e w3 => e = .returned (.bool true) ∧ Below w.heap.size w w3) := fun w => by
    have := fitsL_any [(p : Int) + (bl : Int)] 1 w.heap.size (w.alloc (.cells #[.int .i64 ((p : Int) + (bl : Int))] 3)) rfl (by omega) (fun j x hj => by
      match j, hj with
      | 0, hj => cases hj; exact cell_new _ _ _ 0 _ rfl)
    rw [hq1] at this
    refine this.mono ?_
    rintro e w3 ⟨rfl, hb⟩
    exact ⟨rfl, ((Below.refl _ _).alloc (Nat.le_refl _) _).trans (hb.mono (by simp))⟩
  subst h0
  obtain rfl : l = [] := by simpa using hbl
  have ew : writeP bs p [] = bs := if_pos rfl
  go_enter Tryz.func105, Tryz.ntmps105
  go_wp2_with fail
  refine wp_scope_fwd 1 ?_
  go_wp2_with (first
    | go_step3
    | (go_at_call 154; refine HBG.out.mono ?_; rintro e w2 ⟨X, v, rfl, hdt, hb⟩; obtain ⟨A2, c2, rfl, h21, h22⟩ := ownsRow_slice hdt.row; have hcx := hdt.cell)
    | (go_at_call 156; have _t := t1; refine (HF.out _).mono ?_; clear t1 _t; rintro e w3 ⟨rfl, hb3⟩; have hd3 := Lib.hid (hdt.below hb3))
    | (go_at_call 156; refine (HF1.out _).mono ?_; rintro e w4 ⟨rfl, hb4⟩; have hd4 := Lib.hid (hd3.out.below hb4); have hx4 := hd4.out.cell))
  rw [fwd_ret]
  refine bodyPost_ret (v := .tuple #[.slice A2 k c2, .int .i64 0]) (by simp [results, Tryz.results105, go_sem]) rfl ?_
  exact WriteR.good e1 (by rw [ew]; exact hl) h21 h22 (by rw [ew]; exact row_of_own hd4.out.row) (own_fresh hd4.out.row) ((hb.trans (hb3.mono hb.size)).trans (hb4.mono (Nat.le_trans hb.size hb3.size)))
end Go.Proofs.YtibpagmpdgflmaaGreatDoor

namespace Go.Proofs.YtibpagmpdgflmaaGreatDoor
open Go.RowKit
attribute [local go_sem] Oper.semAt_some

set_option maxRecDepth 100000 in
set_option maxHeartbeats 8000000 in
theorem write_full (A : Option Addr) (k c : Nat) (p : Nat) (bs : List UInt8) (B : Option Addr) (bl bc : Nat) (l : List UInt8) (W : World) (hl : bs.length = k) (hk : k ≤ 100000) (hbl : l.length = bl) (hbm : bl ≤ maxLen) (hrow : RowAt W B (l.map encB))
    (HBG : Hid (Calls Tryz.prog 154 #[.slice A k c] W fun e W' => ∃ X v, e = .returned (.pointer (some ⟨X, 0, none⟩)) ∧ DatAt W.heap.size X W' v k bs ∧ Below W.heap.size W W')) (h2 : ¬ (448 < k ∨ 448 < p ∨ 448 < bl)) (h3 : ¬ 448 < p + bl) (h0 : ¬ bl = 0) :
    Calls Tryz.prog 105 #[.slice A k c, .int .i64 p, .slice B bl bc] W (WriteR k p bs l W) := by
  have hmf : ∀ (fn : Fn) (first cap : Array Value) (w : World), (Instr.makeFunc fn first cap).run Tryz.prog w = .ok (.func fn first cap) w := fun _ _ _ _ => rfl
  have t1 : True := trivial
  have hbl2 : (bl : Int) ≤ 9223372036854775807 := by unfold maxLen at hbm; omega
  have h1 : ¬ ((p : Int) < 0) := by omega
  have hd : decide ((p : Int) < 0) = false := decide_eq_false h1
  have hq : (![(k : Int), (p : Int), (bl : Int)].any fun x => decide (448 < x)) = true := by simp; omega
  have HF : Hid (∀ w : World, Calls Tryz.prog 156 #[.slice (some ⟨w.heap.size, 0, none⟩) 3 3] (w.alloc (.cells #[.int .i64 k, .int .i64 p, .int .i64 bl] 3)) fun e w3 => e = .returned (.bool true) ∧ Below w.heap.size w w3) := fun w => by
    have := fitsL_any [(k : Int), (p : Int), (bl : Int)] 3 w.heap.size (w.alloc (.cells #[.int .i64 k, .int .i64 p, .int .i64 bl] 3)) rfl (by omega) (fun j x hj => by
      match j, hj with
      | 0, hj => cases hj; exact cell_new _ _ _ 0 _ rfl
      | 1, hj => cases hj; exact cell_new _ _ _ 1 _ rfl
      | 2, hj => cases hj; exact cell_new _ _ _ 2 _ rfl)
    rw [hq] at this
    refine this.mono ?_
    rintro e w3 ⟨rfl, hb⟩
    exact ⟨rfl, ((Below.refl _ _).alloc (Nat.le_refl _) _).trans (hb.mono (by simp))⟩
  have e1 : writeG k p bl = 0 := by unfold writeG; rw [if_neg h1, if_neg (by omega)]
  have hq1 : (![(p : Int) + (bl : Int)].any fun x => decide (448 < x)) = true := by simp; omega
  have HF1 : Hid (∀ w : World, Calls Tryz.prog 156 #[.slice (some ⟨w.heap.size, 0, none⟩) 1 1] (w.alloc (.cells #[.int .i64 ((p : Int) + (bl : Int))] 3)) fun e w3 => e = .returned (.bool true) ∧ Below w.heap.size w w3) := fun w => by
    have := fitsL_any [(p : Int) + (bl : Int)] 1 w.heap.size (w.alloc (.cells #[.int .i64 ((p : Int) + (bl : Int))] 3)) rfl (by omega) (fun j x hj => by
      match j, hj with
      | 0, hj => cases hj; exact cell_new _ _ _ 0 _ rfl)
    rw [hq1] at this
    refine this.mono ?_
    rintro e w3 ⟨rfl, hb⟩
    exact ⟨rfl, ((Below.refl _ _).alloc (Nat.le_refl _) _).trans (hb.mono (by simp))⟩
  have hpos : 0 < (bl : Int) := by omega
  have hln : l ≠ [] := by rintro rfl; exact h0 hbl.symm
  obtain ⟨b, off, hA, hbW, hcs⟩ := hrow (by rw [List.length_map]; omega)
  subst hA
  obtain ⟨q, hq2⟩ : ∃ q, max k (p + bl) = q := ⟨_, rfl⟩
  have HRC : Hid (∀ X v w, DatAt W.heap.size X w v k bs → W.heap.size ≤ w.heap.size → Calls Tryz.prog 155 #[.pointer (some ⟨X, 0, none⟩), .int .i64 ((p : Int) + (bl : Int))] w fun e W' => e = .returned (.tuple #[]) ∧ (∃ v', DatAt W.heap.size X W' v' q (extP bs (p + bl))) ∧ Below W.heap.size w W') := fun X v w hd hb => by
    have := reach_own W.heap.size X (p + bl) k v bs w hd (by omega) (by omega) hb
    rw [show ((p + bl : Nat) : Int) = (p : Int) + (bl : Int) from by omega, hq2] at this
    exact this
  have hqp : (p : Int) ≤ (q : Int) := by omega
  go_enter Tryz.func105, Tryz.ntmps105
  go_wp2_with fail
  refine wp_scope_fwd 1 ?_
  go_wp2_with (first
    | go_step3
    | (go_at_call 154; refine HBG.out.mono ?_; rintro e w2 ⟨X, v, rfl, hdt, hb⟩; obtain ⟨A2, c2, rfl, h21, h22⟩ := ownsRow_slice hdt.row; have hcx := hdt.cell)
    | (go_at_call 156; have _t := t1; refine (HF.out _).mono ?_; clear t1 _t; rintro e w3 ⟨rfl, hb3⟩; have hd3 := Lib.hid (hdt.below hb3))
    | (go_at_call 156; refine (HF1.out _).mono ?_; rintro e w4 ⟨rfl, hb4⟩; have hd4 := Lib.hid (hd3.out.below hb4); have hx4 := hd4.out.cell; have hB4 : Below W.heap.size W w4 := (hb.trans (hb3.mono hb.size)).trans (hb4.mono (Nat.le_trans hb.size hb3.size)))
    | (go_at_call 155; refine (HRC.out X _ _ hd4.out hB4.size).mono ?_; rintro e w5 ⟨rfl, ⟨v5, hd5⟩, hb5⟩; obtain ⟨g, c5, rfl, hg1, h51, h52⟩ : ∃ g c5, v5 = .slice (some ⟨g, 0, none⟩) q c5 ∧ W.heap.size ≤ g ∧ q ≤ c5 ∧ c5 ≤ maxLen := own_some hd5.row (by omega); have hne5 : g ≠ X := hd5.ne g rfl; have hx5 := hd5.cell; have hB5 : Below W.heap.size W w5 := hB4.trans hb5; have HD5 := Lib.hid hd5; have hR5 := Lib.hid (row_of_own hd5.row); have hx6 : (w5.setCells g p (l.map encB)).cell? ⟨X, 0, none⟩ = some (.slice (some ⟨g, 0, none⟩) q c5) := (World.cell?_setCells_out g _ _ _ _ (fun e _ => absurd e.symm hne5)).trans hx5; have hck : ¬ c5 = p := (by omega); clear hd5)
    | (refine wpList_copy_known rfl _ _ _ _ rfl _ _ _ (w5.setCells g p (l.map encB)) rfl rfl (fun ty => run_copy_cells w5 25 25 ty 5 g p (q - p) (c5 - p) ⟨b, off, none⟩ bl bc (l.map encB) Tryz.underlyingBytes (by kernel_rfl) ?q1 ?q2 ?q3 ?q4 ?q5) ?_))
  case q1 => rw [List.length_map, hbl]; show bl = min bl (q - p); omega
  case q2 =>
    intro j u hu
    rw [plain_add]
    have hb5' : w5.cell? ⟨b, off + j, none⟩ = W.cell? ⟨b, off + j, none⟩ := hB5.cell (p := ⟨b, off + j, none⟩) hbW
    rw [hb5']
    exact hcs j u hu
  case q3 =>
    intro j hj
    rw [List.length_map] at hj
    have hlq : (extP bs (p + bl)).length = q := by rw [extP_length, hl]; exact hq2
    obtain ⟨b', off', e, _, hcc⟩ := hR5.out (by rw [List.length_map]; omega)
    cases e
    have := hcc (p + j) _ (List.getElem?_eq_getElem (by rw [List.length_map]; omega))
    rw [Nat.zero_add] at this
    rw [this]; rfl
  case q4 => intro j _; exact own_free HD5.out.row _
  case q5 => intro u hu; obtain ⟨x, _, rfl⟩ := List.mem_map.1 hu; rfl
  rw [fwd_ret]
  refine bodyPost_ret (v := .tuple #[.slice (some ⟨g, 0, none⟩) q c5, .int .i64 0]) (by simp [results, Tryz.results105, go_sem]) rfl ?_
  have hlq : (extP bs (p + bl)).length = q := by rw [extP_length, hl]; exact hq2
  refine WriteR.good (by rw [hbl]; exact e1) (by rw [writeP_length _ _ _ hln, hl, hbl]; exact hq2) h51 h52 ?_ (.inr ⟨g, hg1, rfl⟩) (below_setCells hg1 _ _ _ hB5)
  have := row_setCells (a := p) (ys := l.map encB) hR5.out (by rw [List.length_map, List.length_map]; omega) (by rw [List.length_map]; omega)
  unfold writeP
  rw [if_neg hln, List.map_append, List.map_append, List.map_take, List.map_drop, hbl]
  rw [List.length_map, hbl] at this
  exact this
theorem write_any (A : Option Addr) (k c : Nat) (a : Int) (bs : List UInt8) (B : Option Addr) (bl bc : Nat) (l : List UInt8) (W : World) (hl : bs.length = k) (hk : k ≤ 100000) (hP : PlainA A) (h : RowAt W A (bs.map encB)) (hbl : l.length = bl) (hbm : bl ≤ maxLen) (hrow : RowAt W B (l.map encB)) :
    Calls Tryz.prog 105 #[.slice A k c, .int .i64 a, .slice B bl bc] W (WriteR k a bs l W) := by
  have HBG := Lib.hid (begun_own A k c bs W hl hk hP h)
  by_cases h1 : a < 0
  · exact write_neg A k c a bs B bl bc l W hl hk hbl hbm hrow HBG h1
  · obtain ⟨p, rfl⟩ : ∃ p : Nat, a = p := ⟨a.toNat, by omega⟩
    by_cases h2 : 448 < k ∨ 448 < p ∨ 448 < bl
    · exact write_big A k c p bs B bl bc l W hl hk hbl hbm hrow HBG h2
    · by_cases h3 : 448 < p + bl
      · exact write_big2 A k c p bs B bl bc l W hl hk hbl hbm hrow HBG h2 h3
      · by_cases h0 : bl = 0
        · exact write_none A k c p bs B bl bc l W hl hk hbl hbm hrow HBG h2 h3 h0
        · exact write_full A k c p bs B bl bc l W hl hk hbl hbm hrow HBG h2 h3 h0
end Go.Proofs.YtibpagmpdgflmaaGreatDoor
