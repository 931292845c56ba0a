/- The contract of label.Words. The contracts of label.Read and label.Same. Conditions: none. -/
import Derived.Test.YtdpooagnbmpinaaGreatDoorZW5
import Derived.Test.YtdpooagnbmpinaaGreatDoorZB2
import Derived.Laws.CopyOwn
import Derived.Laws.StructEq
import Derived.ChangeKeysEq
namespace Go.Proofs.YtdpooagnbmpinaaGreatDoor
open Go.RowKit

/-- A name's words, or no words. -/
def wordsP (s : List UInt8) (k : Nat) : Nat := if rightB s then wordAt s k else 0
theorem rightB_size {s : List UInt8} (h : rightB s = true) : 1 ≤ s.length ∧ s.length ≤ 40 := by
  simp [rightB] at h; omega
theorem arr5_zero (w : World) (t : TypeId) : Arr5 (w.alloc (.cells #[.int .u64 0, .int .u64 0, .int .u64 0, .int .u64 0, .int .u64 0] t)) w.heap.size (fun _ => 0) := by
  refine ⟨fun k hk => ?_, fun k => ?_⟩
  · match k, hk with
    | 0, _ => simp
    | 1, _ => simp
    | 2, _ => simp
    | 3, _ => simp
    | 4, _ => simp
  · simp

set_option maxRecDepth 100000 in
set_option maxHeartbeats 2000000 in
theorem labelWords_any (s : ByteArray) (w : World) (hs : s.size ≤ maxLen) :
    Calls Tryz.prog 137 #[.string s] w fun e w' => e = .returned (.tuple #[encF (wordsP (bytesOf s)), .int .i64 (errB (rightB (bytesOf s)))]) ∧ Below w.heap.size w w' := by
  have HC := Lib.hid (fun W => check_any s W hs)
  have hz := arr5_zero w 190
  have hb0 : Below w.heap.size w (w.alloc (.cells #[.int .u64 0, .int .u64 0, .int .u64 0, .int .u64 0, .int .u64 0] 190)) := (Below.refl _ _).alloc (Nat.le_refl _) _
  have HZ := Lib.hid hz
  have HB0 := Lib.hid hb0
  clear hz hb0
  have HWP : ∀ b, rightB (bytesOf s) = b → Hid (wordsP (bytesOf s) = fun k => if b then wordAt (bytesOf s) k else 0) := fun b h => by
    rw [Hid]; funext k; rw [wordsP, h]
  have HR : ∀ b, rightB (bytesOf s) = b → Hid (rightB s.data.toList = b) := fun _ h => h
  cases hr : rightB (bytesOf s)
  · have HW := HWP _ hr
    have HR1 := HR _ hr
    clear HWP HR hr
    go_enter Tryz.func137, Tryz.ntmps137
    go_wp2_with fail
    refine wp_scope_fwd 1 ?_
    go_wp2_with go_step3
    refine (HC.out _).mono ?_
    rintro e w1 ⟨rfl, hb1⟩
    rw [HR1.out]
    have ha := HZ.out.below hb1 (by simp)
    have HB1 := Lib.hid (below_trans HB0.out hb1)
    clear hb1
    go_wp2_with go_step3
    refine fwd_goto _ rfl ?_
    obtain ⟨d0, d1, d2, d3, d4⟩ := ha.five
    have e0 := ha.2 0
    have e1 := ha.2 1
    have e2 := ha.2 2
    have e3 := ha.2 3
    have e4 := ha.2 4
    have HA := Lib.hid ha
    clear ha
    go_wp2_with go_step3
    rw [fwd_ret]
    have HF : Hid (Arr5 (((((w1.setCell ⟨w.heap.size, 0, none⟩ (.int .u64 0)).setCell ⟨w.heap.size, 1, none⟩ (.int .u64 0)).setCell ⟨w.heap.size, 2, none⟩ (.int .u64 0)).setCell ⟨w.heap.size, 3, none⟩ (.int .u64 0)).setCell ⟨w.heap.size, 4, none⟩ (.int .u64 0)) w.heap.size (fun _ => 0)) := HA.out.all (fun _ => 0)
    have HBF : Hid (Below w.heap.size w (((((w1.setCell ⟨w.heap.size, 0, none⟩ (.int .u64 0)).setCell ⟨w.heap.size, 1, none⟩ (.int .u64 0)).setCell ⟨w.heap.size, 2, none⟩ (.int .u64 0)).setCell ⟨w.heap.size, 3, none⟩ (.int .u64 0)).setCell ⟨w.heap.size, 4, none⟩ (.int .u64 0))) := below_five HB1.out (Nat.le_refl _) (fun _ => 0)
    generalize (((((w1.setCell ⟨w.heap.size, 0, none⟩ (.int .u64 0)).setCell ⟨w.heap.size, 1, none⟩ (.int .u64 0)).setCell ⟨w.heap.size, 2, none⟩ (.int .u64 0)).setCell ⟨w.heap.size, 3, none⟩ (.int .u64 0)).setCell ⟨w.heap.size, 4, none⟩ (.int .u64 0)) = W9 at *
    obtain ⟨g0, g1, g2, g3, g4⟩ := HF.out.five
    refine bodyPost_ret (v := .tuple #[encF (fun _ => 0), .int .i64 (errB false)]) (by simp [results, Tryz.results137, go_sem, g0, g1, g2, g3, g4, encF]) rfl ⟨?_, HBF.out⟩
    rw [HW.out]; rfl
  · have HW := HWP _ hr
    have HR1 := HR _ hr
    obtain ⟨hl1, hl40⟩ := rightB_size hr
    rw [size_bytesOf] at hl1 hl40
    clear HWP HR hr
    have hconv := fun W => Lib.run_convert_string_bytes (P := Tryz.prog) W 9 26 5 s Tryz.underlyingStr Tryz.underlyingBytes Tryz.underlyingByte
    have HCV := Lib.hid hconv
    clear hconv
    go_enter Tryz.func137, Tryz.ntmps137
    go_wp2_with fail
    refine wp_scope_fwd 1 ?_
    go_wp2_with go_step3
    refine (HC.out _).mono ?_
    rintro e w1 ⟨rfl, hb1⟩
    rw [HR1.out]
    have ha := HZ.out.below hb1 (by simp)
    have hH1 : w1.heap[w.heap.size]? = some (.cells #[.int .u64 0, .int .u64 0, .int .u64 0, .int .u64 0, .int .u64 0] 190 (0, 0)) := (hb1.block w.heap.size (by simp)).trans (heap_alloc_new w _)
    have hs1 : w.heap.size < w1.heap.size := by have := hb1.size; simp at this; omega
    have HB1 := Lib.hid (below_trans HB0.out hb1)
    clear hb1
    have hconv := HCV.out
    go_wp2_with go_step3
    have hbB := below_bytes w1 5 s
    have hrow := row_bytes w1 5 s
    have hsB : (Lib.bytesWorld w1 5 s).heap.size = w1.heap.size + 1 := Lib.bytesWorld_size _ _ _
    have hcap1 := grownCap_ge w1 s.size 0 5
    have hcap2 := grownCap_le_maxLen w1 s.size 0 5 (by unfold maxLen; omega)
    clear hconv
    refine (words_any (bytesOf s) w1.heap.size 0 s.size _ _ rfl (by omega) hcap1 hcap2 hrow (by omega)).mono ?_
    rintro e w3 ⟨v, rfl, hown, hb3⟩
    obtain ⟨m, HM, hm5, hm1⟩ : ∃ m : Nat, Hid ((s.size + 7) / 8 = m) ∧ m ≤ 5 ∧ 1 ≤ m := ⟨_, rfl, by omega, by omega⟩
    rw [HM.out] at hown
    obtain ⟨A, cc, rfl, hmc, hcm⟩ := owns_slice hown
    obtain ⟨g, off, rfl, hgl, hgc⟩ := row_of_own hown (by rw [List.length_map, wordsN_length, size_bytesOf, HM.out]; omega)
    have hB3 := below_trans HB1.out (hbB.trans (hb3.mono (by omega)))
    have hH3 : w3.heap[w.heap.size]? = some (.cells (List.replicate 5 (Value.int .u64 0)).toArray 190 (0, 0)) := (hb3.block w.heap.size (by omega)).trans ((hbB.block w.heap.size hs1).trans hH1)
    have HB3 := Lib.hid hB3
    have HGC := Lib.hid hgc
    have HLN : Hid (((wordsN (bytesOf s)).map encW).length = m) := by rw [Hid, List.length_map, wordsN_length, size_bytesOf]; exact HM.out
    have HPAST : Hid (∀ k, m ≤ k → wordAt (bytesOf s) k = 0) := fun k hk => wordAt_past (by rw [size_bytesOf]; have := HM.out; omega)
    have HGET : Hid (∀ k, k < m → ((wordsN (bytesOf s)).map encW)[k]? = some (.int .u64 (wordAt (bytesOf s) k : Nat))) := fun k hk => by
      rw [List.getElem?_map, wordsN, List.getElem?_map, List.getElem?_range (by rw [size_bytesOf]; have := HM.out; omega)]; rfl
    clear hown hb3 hB3 hgc hrow ha hH1 hbB
    go_wp2_with (first | go_step3 | with_reducible refine wpList_copy_splice rfl _ _ 23 23 rfl 24 Tryz.underlyingU64s (by kernel_rfl) _ _ _ _ _ _ rfl rfl w.heap.size 0 (List.replicate 5 (Value.int .u64 0)) 190 hH3 ((wordsN (bytesOf s)).map encW) ?k1 ?k2 ?k3 ?k4 w.heap.size w HB3.out (Nat.le_refl _) ?_)
    case k1 => rw [HLN.out]; exact (Nat.min_eq_left hm5).symm
    case k2 => exact fun _ j a hj => HGC.out j _ (by rw [List.getElem?_map, hj]; rfl)
    case k3 => rw [HLN.out]; simp; omega
    case k4 => intro u hu; obtain ⟨x, _, rfl⟩ := List.mem_map.1 hu; rfl
    intro w4 hH4 hB4
    have ha4 : Arr5 w4 w.heap.size (wordAt (bytesOf s)) := by
      refine ⟨fun k hk => ?_, fun k => by simp [World.frozen?, hH4.out]⟩
      rw [cell_of_row _ _ _ _ _ _ hH4.out]
      simp only [splice, List.take_zero, List.nil_append, List.getElem?_toArray]
      by_cases hkm : k < m
      · rw [List.getElem?_append_left (by rw [HLN.out]; exact hkm)]
        exact HGET.out k hkm
      · rw [List.getElem?_append_right (by rw [HLN.out]; omega), HLN.out, List.getElem?_drop, HPAST.out k (by omega), show 0 + m + (k - m) = k by omega]
        match k, hk with
        | 0, _ => rfl
        | 1, _ => rfl
        | 2, _ => rfl
        | 3, _ => rfl
        | 4, _ => rfl
    obtain ⟨d0, d1, d2, d3, d4⟩ := ha4.five
    have e0 := ha4.2 0
    have e1 := ha4.2 1
    have e2 := ha4.2 2
    have e3 := ha4.2 3
    have e4 := ha4.2 4
    have HA := Lib.hid ha4
    have HB4 := Lib.hid hB4
    generalize hf : wordAt (bytesOf s) = f at *
    have HFE := Lib.hid hf
    clear ha4 hB4 hH4 hf hH3
    go_wp2_with go_step3
    rw [fwd_ret]
    have HF : Hid (Arr5 (((((w4.setCell ⟨w.heap.size, 0, none⟩ (.int .u64 (f 0 : Nat))).setCell ⟨w.heap.size, 1, none⟩ (.int .u64 (f 1 : Nat))).setCell ⟨w.heap.size, 2, none⟩ (.int .u64 (f 2 : Nat))).setCell ⟨w.heap.size, 3, none⟩ (.int .u64 (f 3 : Nat))).setCell ⟨w.heap.size, 4, none⟩ (.int .u64 (f 4 : Nat))) w.heap.size f) := HA.out.all f
    have HBF : Hid (Below w.heap.size w (((((w4.setCell ⟨w.heap.size, 0, none⟩ (.int .u64 (f 0 : Nat))).setCell ⟨w.heap.size, 1, none⟩ (.int .u64 (f 1 : Nat))).setCell ⟨w.heap.size, 2, none⟩ (.int .u64 (f 2 : Nat))).setCell ⟨w.heap.size, 3, none⟩ (.int .u64 (f 3 : Nat))).setCell ⟨w.heap.size, 4, none⟩ (.int .u64 (f 4 : Nat)))) := below_five HB4.out (Nat.le_refl _) f
    generalize (((((w4.setCell ⟨w.heap.size, 0, none⟩ (.int .u64 (f 0 : Nat))).setCell ⟨w.heap.size, 1, none⟩ (.int .u64 (f 1 : Nat))).setCell ⟨w.heap.size, 2, none⟩ (.int .u64 (f 2 : Nat))).setCell ⟨w.heap.size, 3, none⟩ (.int .u64 (f 3 : Nat))).setCell ⟨w.heap.size, 4, none⟩ (.int .u64 (f 4 : Nat))) = W9 at *
    obtain ⟨g0, g1, g2, g3, g4⟩ := HF.out.five
    refine bodyPost_ret (v := .tuple #[encF f, .int .i64 0]) (by simp [results, Tryz.results137, go_sem, g0, g1, g2, g3, g4, encF]) rfl ⟨?_, HBF.out⟩
    rw [HW.out, ← HFE.out]; rfl
end Go.Proofs.YtdpooagnbmpinaaGreatDoor

namespace Go.Proofs.YtdpooagnbmpinaaGreatDoor
open Go.RowKit

/-- Are five words the same? -/
def eqF (f g : Nat → Nat) : Bool := f 0 == g 0 && f 1 == g 1 && f 2 == g 2 && f 3 == g 3 && f 4 == g 4
theorem eqF_iff (f g : Nat → Nat) : eqF f g = true ↔ ∀ k, k < 5 → f k = g k := by
  simp only [eqF, Bool.and_eq_true, beq_iff_eq]
  constructor
  · rintro ⟨⟨⟨⟨h0, h1⟩, h2⟩, h3⟩, h4⟩ k hk
    match k, hk with
    | 0, _ => exact h0
    | 1, _ => exact h1
    | 2, _ => exact h2
    | 3, _ => exact h3
    | 4, _ => exact h4
  · intro h
    exact ⟨⟨⟨⟨h 0 (by omega), h 1 (by omega)⟩, h 2 (by omega)⟩, h 3 (by omega)⟩, h 4 (by omega)⟩
theorem nat_beq (a b : Nat) : ((a : Int) == (b : Int)) = (a == b) := by
  rw [Bool.eq_iff_iff, beq_iff_eq, beq_iff_eq]; omega
theorem run_neq_five (f g : Nat → Nat) (w : World) : (binOp .neq 190 (encF f) (encF g)).run Tryz.prog w = .ok (.bool (!eqF f g)) w := by
  have hu : Tryz.prog.underlying 190 = some (.array 5 24) := by kernel_rfl
  have u1 : Tryz.prog.underlying 24 = some (.int .u64) := by kernel_rfl
  have hz := Tryz.sizeOf24
  have ha := Tryz.isAgg24
  obtain ⟨i0, hi, _, _, _⟩ := info_parts Tryz.infoU64
  have hc : Tryz.prog.cellsOf 24 = 1 := by kernel_rfl
  unfold encF
  simp only [binOp, Op.equal, Op.maxDepth, Sem.run_bind]
  rw [show (10000 : Nat) = 9999 + 1 from rfl, run_equalIn_array w 9999 _ _ hu hi, hc, show List.range 5 = [0, 1, 2, 3, 4] from rfl]
  rw [show (9999 : Nat) = 9998 + 1 from rfl]
  simp only [Op.eqItems]
  go_simp
  simp only [eqF]
  go_simp
  simp only [Int.ofNat_inj]
  by_cases h0 : f 0 = g 0 <;> by_cases h1 : f 1 = g 1 <;> by_cases h2 : f 2 = g 2 <;> by_cases h3 : f 3 = g 3 <;> by_cases h4 : f 4 = g 4 <;> simp [h0, h1, h2, h3, h4]

/-- The bytes of words; what name they are. -/
def bytes40 (f : Nat → Nat) : List UInt8 := (List.range 5).flatMap fun k => byte8 (f k)
def isName (f : Nat → Nat) (s : List UInt8) : Bool := rightB s && eqF (wordAt s) f
def readL (f : Nat → Nat) (many : Int) : List UInt8 × Int :=
  if 1 ≤ many ∧ many ≤ 40 ∧ isName f ((bytes40 f).take many.toNat) = true then ((bytes40 f).take many.toNat, 0) else ([], 161)
theorem bytes40_length (f : Nat → Nat) : (bytes40 f).length = 40 := by
  simp [bytes40, byte8_length, List.range_succ]
theorem bytes_take (f : Nat → Nat) (k : Nat) (_h : k < 5) : ((List.range (k + 1)).flatMap fun j => byte8 (f j)) = ((List.range k).flatMap fun j => byte8 (f j)) ++ byte8 (f k) := by
  rw [List.range_succ, List.flatMap_append]; simp
theorem index_five (f : Nat → Nat) (k : Nat) (hk : k < 5) (w : World) : (Instr.index 190 (encF f) (.int .i64 k)).run Tryz.prog w = .ok (.int .u64 (f k : Nat)) w := by
  have h : k = 0 ∨ k = 1 ∨ k = 2 ∨ k = 3 ∨ k = 4 := by omega
  have i0 : (Instr.index 190 (encF f) (.int .i64 (0 : Nat))).run Tryz.prog w = .ok (.int .u64 (f 0 : Nat)) w := by kernel_rfl
  have i1 : (Instr.index 190 (encF f) (.int .i64 (1 : Nat))).run Tryz.prog w = .ok (.int .u64 (f 1 : Nat)) w := by kernel_rfl
  have i2 : (Instr.index 190 (encF f) (.int .i64 (2 : Nat))).run Tryz.prog w = .ok (.int .u64 (f 2 : Nat)) w := by kernel_rfl
  have i3 : (Instr.index 190 (encF f) (.int .i64 (3 : Nat))).run Tryz.prog w = .ok (.int .u64 (f 3 : Nat)) w := by kernel_rfl
  have i4 : (Instr.index 190 (encF f) (.int .i64 (4 : Nat))).run Tryz.prog w = .ok (.int .u64 (f 4 : Nat)) w := by kernel_rfl
  rcases h with rfl | rfl | rfl | rfl | rfl
  · exact i0
  · exact i1
  · exact i2
  · exact i3
  · exact i4

theorem owns_empty (w : World) (base : Nat) (e : TypeId) (size : Nat) (hb : base ≤ w.heap.size) : (w.alloc (.cells #[] e)).ownsRow base e size (.slice (some ⟨w.heap.size, 0, none⟩) 0 0) 0 [] :=
  World.ownsRow_made w #[] 0 hb (Nat.zero_le _) (by simp)

set_option maxRecDepth 100000 in
set_option maxHeartbeats 2000000 in
theorem labelRead_any (f : Nat → Nat) (hf : ∀ k, f k < 18446744073709551616) (many : Int) (w : World) (hm : (Lit.int .i64 many).wf = true) :
    Calls Tryz.prog 115 #[encF f, .int .i64 many] w fun e w' => e = .returned (.tuple #[.string (ofBytes (readL f many).1), .int .i64 (readL f many).2]) ∧ Below w.heap.size w w' := by
  obtain ⟨i0, hi, hz0, hz1, hz2⟩ := info_parts Tryz.infoU8
  have HM := Lib.hid hm
  clear hm
  by_cases h1 : 1 ≤ many
  · by_cases h40 : many ≤ 40
    · obtain ⟨n, rfl⟩ := Int.eq_ofNat_of_zero_le (show 0 ≤ many by omega)
      have HRD : ∀ b, isName f ((bytes40 f).take n) = b → Hid (readL f n = if b then ((bytes40 f).take n, 0) else ([], 161)) := fun b hb => by
        rw [Hid, readL, Int.toNat_natCast, hb]
        cases b
        · simp
        · rw [if_pos ⟨h1, h40, rfl⟩]; rfl
      have HIX := Lib.hid (fun k hk w => index_five f k hk w)
      have hff := hf
      have HF := Lib.hid hf
      unfold encF at HIX ⊢
      clear hff hf
      go_enter Tryz.func115, Tryz.ntmps115
      go_wp2_with fail
      refine wp_scope_fwd 1 ?_
      go_wp2_with go_step3
      obtain ⟨w0, hw0⟩ : ∃ w0, w0 = ((w.alloc (.cells #[.int .u64 (f 0 : Nat), .int .u64 (f 1 : Nat), .int .u64 (f 2 : Nat), .int .u64 (f 3 : Nat), .int .u64 (f 4 : Nat)] 190)).alloc (.cells #[] 5)) := ⟨_, rfl⟩
      have HW0 := Lib.hid hw0
      clear hw0
      go_loopw [6, 21] (fun v i wr => ∃ k : Nat, k ≤ 5 ∧ i = .int .i64 k ∧ wr.ownsRow (w.heap.size + 1) 5 1 v (8 * k) (((List.range k).flatMap fun j => byte8 (f j)).map encB) ∧ Below w.heap.size w wr ∧ w.heap.size < wr.heap.size ∧ wr.heap[w.heap.size]? = w0.heap[w.heap.size]?) (fun _ i _ => 5 - (intOf i).toNat)
      case atStart =>
        refine ⟨0, Nat.zero_le _, rfl, ?_, ((Below.refl _ _).alloc (Nat.le_refl _) _).alloc (by simp) _, by simp; omega, by rw [HW0.out]⟩
        have := owns_empty (w.alloc (.cells #[.int .u64 (f 0 : Nat), .int .u64 (f 1 : Nat), .int .u64 (f 2 : Nat), .int .u64 (f 3 : Nat), .int .u64 (f 4 : Nat)] 190)) (w.heap.size + 1) 5 1 (by simp)
        simpa using this
      case round =>
        obtain ⟨k, hk, rfl, hown, hb, hsw, hbx⟩ := hrel
        by_cases hlt : k < 5
        · have hix := HIX.out k hlt
          have HFK := Lib.hid (HF.out k)
          have HTS := Lib.hid (bytes_take f k hlt)
          have HOWN := Lib.hid hown
          have HB := Lib.hid hb
          have HBX := Lib.hid hbx
          have HLT := Lib.hid hown.lt
          have hsz := hb.size
          generalize hA : f k = a at *
          clear hown hb hbx hA
          go_wp2_with fail
          refine (bytes8_any a wr.heap.size 0 1 _ HFK.out (by simp)).mono ?_
          rintro e w1 ⟨g, rfl, hg, hrow, hb1⟩
          have hO1 := owns_below (HOWN.out.alloc _) hb1
          have hB1 := (HB.out.alloc hsz _).trans (hb1.mono (by simp; omega))
          have hbx1 : w1.heap[w.heap.size]? = w0.heap[w.heap.size]? := (hb1.block w.heap.size (by simp; omega)).trans ((Below.heap_alloc _ _ _ (by omega)).trans HBX.out)
          obtain ⟨g', off', e', _, hgc⟩ := hrow (by rw [List.length_map, byte8_length]; omega)
          cases e'
          have HO1 := Lib.hid hO1
          have HB1 := Lib.hid hB1
          have HBX1 := Lib.hid hbx1
          have HGC := Lib.hid hgc
          have hsz1 : wr.heap.size + 1 ≤ w1.heap.size := by have := hb1.size; simpa using this
          have HB8 : Hid (((byte8 a).map encB).length = 8 * 1) := by rw [Hid, List.length_map, byte8_length]
          clear hO1 hB1 hbx1 hgc hrow hb1 HOWN HB HBX hix
          go_wp2_with (at_builtin; refine wpList_append_own _ rfl _ _ 26 rfl (w.heap.size + 1) 5 i0 (.int .u8 0) 1 1 Tryz.underlyingBytes hi hz0 hz1 hz2 rfl (by decide) _ _ _ rfl HO1.out ⟨g, 0, none⟩ 8 8 ((byte8 a).map encB) rfl HB8.out ?c1 ?c2 ?c3 ?c4 ?c5 ?_)
          case c1 => intro j u hj; rw [plain_add]; exact HGC.out j u hj
          case c2 => intro u hu; obtain ⟨x, _, rfl⟩ := List.mem_map.1 hu; rfl
          case c3 => unfold maxLen; omega
          case c4 => omega
          case c5 => omega
          intro v' w2 hown' hgrow _
          have hb2 : Below w.heap.size w w2 := HB1.out.grown hgrow (by omega) (fun j e => by have := (HLT.out j e).1; omega)
          have HO2 : Hid (w2.ownsRow (w.heap.size + 1) 5 1 v' (8 * (k + 1)) (((List.range (k + 1)).flatMap fun j => byte8 (f j)).map encB)) := by
            rw [Hid, HTS.out, List.map_append]; exact hown'
          have HBX2 : Hid (w2.heap[w.heap.size]? = w0.heap[w.heap.size]?) := by
            refine (hgrow.block w.heap.size (by omega) (fun e => ?_)).trans HBX1.out
            have := (HLT.out _ e.symm).1; omega
          have hs2 : w.heap.size < w2.heap.size := by have := hgrow.size; omega
          clear hgrow hown' HO1 HB1 HBX1 HGC
          go_wp2_with fail
          go_roundw
          case rel => exact ⟨k + 1, by omega, by go_num, HO2.out, hb2, hs2, HBX2.out⟩
          case measure => simp [intOf]; omega
        · have hk5 : k = 5 := by omega
          subst hk5
          obtain ⟨A, cc, rfl, hcc, hcm⟩ := owns_slice hown
          obtain ⟨g, off, rfl, hgl, hgc⟩ := row_of_own hown (by simp [byte8_length, List.range_succ])
          have h0 : off = 0 := by
            obtain ⟨g', cap', e⟩ := ownsRow_succ hown
            injection e with e
            injection e with e
            injection e
          subst h0
          have hn40 : n ≤ 40 := by omega
          have HTL : Hid (((bytes40 f).take n).length = n) := by rw [Hid, List.length_take, bytes40_length]; omega
          have hcv : (convert 26 9 (.slice (some ⟨g, 0, none⟩) n cc)).run Tryz.prog wr = .ok (.string (ofBytes ((bytes40 f).take n))) wr := by
            have := run_convert_bytes_back (P := Tryz.prog) wr 26 9 5 ⟨g, 0, none⟩ cc ((bytes40 f).take n) Tryz.underlyingBytes Tryz.underlyingByte Tryz.underlyingStr (fun j hj => by
              rw [plain_add]
              rw [HTL.out] at hj
              refine hgc j _ ?_
              rw [List.getElem?_map]
              show Option.map encB ((bytes40 f)[j]?) = _
              rw [List.getElem?_eq_getElem (by rw [bytes40_length]; omega), List.getElem_take]; rfl)
            rw [HTL.out] at this
            exact this
          have hn0 : (0 : Int) ≤ (n : Int) := by omega
          have hnc : (n : Int) ≤ (cc : Int) := by omega
          have HB := Lib.hid hb
          have HBX := Lib.hid hbx
          have HSW := Lib.hid hsw
          clear hown hgc hb hbx
          have hA2 : Arr5 wr w.heap.size f := by
            have hh : wr.heap[w.heap.size]? = some (.cells #[.int .u64 (f 0 : Nat), .int .u64 (f 1 : Nat), .int .u64 (f 2 : Nat), .int .u64 (f 3 : Nat), .int .u64 (f 4 : Nat)] 190 (0, 0)) := by
              rw [HBX.out, HW0.out, Below.heap_alloc _ _ _ (by simp)]
              exact heap_alloc_new w _
            refine ⟨fun k hk => ?_, fun k => by simp [World.frozen?, hh]⟩
            rw [cell_of_row _ _ _ _ _ _ hh]
            match k, hk with
            | 0, _ => rfl
            | 1, _ => rfl
            | 2, _ => rfl
            | 3, _ => rfl
            | 4, _ => rfl
          have hsl : (ofBytes ((bytes40 f).take n)).size ≤ maxLen := by
            have : (ofBytes ((bytes40 f).take n)).size = ((bytes40 f).take n).length := rfl
            rw [this, HTL.out]; unfold maxLen; omega
          have HLW := Lib.hid (fun W => labelWords_any (ofBytes ((bytes40 f).take n)) W hsl)
          rw [bytesOf_ofBytes] at HLW
          have HA2 := Lib.hid hA2
          clear hA2 hsl
          have hcases : (rightB ((bytes40 f).take n) = false ∧ Hid (readL f n = ([], 161))) ∨ (rightB ((bytes40 f).take n) = true ∧ eqF (wordAt ((bytes40 f).take n)) f = true ∧ Hid (readL f n = ((bytes40 f).take n, 0))) ∨ (rightB ((bytes40 f).take n) = true ∧ eqF (wordAt ((bytes40 f).take n)) f = false ∧ Hid (readL f n = ([], 161))) := by
            have hn : isName f ((bytes40 f).take n) = (rightB ((bytes40 f).take n) && eqF (wordAt ((bytes40 f).take n)) f) := rfl
            cases hr : rightB ((bytes40 f).take n)
            · exact .inl ⟨rfl, by have := HRD false (by rw [hn, hr]; rfl); rw [Hid, this.out]; rfl⟩
            · cases he : eqF (wordAt ((bytes40 f).take n)) f
              · exact .inr (.inr ⟨rfl, rfl, by have := HRD false (by rw [hn, hr, he]; rfl); rw [Hid, this.out]; rfl⟩)
              · exact .inr (.inl ⟨rfl, rfl, by have := HRD true (by rw [hn, hr, he]; rfl); rw [Hid, this.out]; rfl⟩)
          clear HRD
          rcases hcases with ⟨hr, HR⟩ | ⟨hr, he, HR⟩ | ⟨hr, he, HR⟩
          · have hw0' : wordsP ((bytes40 f).take n) = fun _ => 0 := by funext k; rw [wordsP, hr]; rfl
            rw [hr, hw0'] at HLW
            clear hr hw0'
            generalize ofBytes ((bytes40 f).take n) = s at *
            unfold encF at HLW
            go_wp2_with go_step3
            refine (HLW.out _).mono ?_
            rintro e w5 ⟨rfl, hb5⟩
            have hA5 := HA2.out.below hb5 hsw
            obtain ⟨d0, d1, d2, d3, d4⟩ := hA5.five
            have hs5 : w.heap.size < w5.heap.size := by have := hb5.size; omega
            have HB5 := Lib.hid (HB.out.trans (hb5.mono (by omega)))
            have he0 : errB false = 160 := rfl
            rw [he0]
            clear hb5 hA5 he0
            go_wp2_with go_step3
            refine fwd_goto _ rfl ?_
            go_wp2_with go_step3
            rw [fwd_ret]
            go_ret2
            exact ⟨by rw [HR.out]; rfl, HB5.out.alloc (by omega) _⟩
          all_goals
            have hw0' : wordsP ((bytes40 f).take n) = wordAt ((bytes40 f).take n) := by funext k; rw [wordsP, hr]; rfl
            rw [hr, hw0'] at HLW
            have hneq := fun W => run_neq_five (wordAt ((bytes40 f).take n)) f W
            rw [he] at hneq
            clear hr hw0' he
            have HOB : Hid (ofBytes ((bytes40 f).take n) = ofBytes ((bytes40 f).take n)) := rfl
            generalize wordAt ((bytes40 f).take n) = q at *
            unfold encF at HLW hneq
            have HNQ := Lib.hid hneq
            clear hneq
            have HCV := Lib.hid hcv
            clear hcv
            have hcv := HCV.out
            go_wp2_with go_step3
            clear hcv
            refine (HLW.out _).mono ?_
            rintro e w5 ⟨rfl, hb5⟩
            have hA5 := HA2.out.below hb5 hsw
            obtain ⟨d0, d1, d2, d3, d4⟩ := hA5.five
            have hs5 : w.heap.size < w5.heap.size := by have := hb5.size; omega
            have HB5 := Lib.hid (HB.out.trans (hb5.mono (by omega)))
            have he0 : errB true = 0 := rfl
            rw [he0]
            clear hb5 hA5 he0
            have hneq := HNQ.out
            go_wp2_with go_step3
          · rw [fwd_ret]
            go_ret2
            exact ⟨by rw [HR.out]; rfl, HB5.out.alloc (by omega) _⟩
          · refine fwd_goto _ rfl ?_
            go_wp2_with go_step3
            rw [fwd_ret]
            go_ret2
            exact ⟨by rw [HR.out]; rfl, HB5.out.alloc (by omega) _⟩
    · have HR : Hid (readL f many = ([], 161)) := if_neg (fun h => h40 h.2.1)
      unfold encF
      go_enter Tryz.func115, Tryz.ntmps115
      go_wp2_with fail
      refine wp_scope_fwd 1 ?_
      go_wp2_with go_step3
      refine fwd_goto _ rfl ?_
      go_wp2_with go_step3
      rw [fwd_ret]
      go_ret2
      exact ⟨by rw [HR.out]; rfl, ((Below.refl _ _).alloc (Nat.le_refl _) _).alloc (by simp) _⟩
  · have HR : Hid (readL f many = ([], 161)) := if_neg (fun h => h1 h.1)
    unfold encF
    go_enter Tryz.func115, Tryz.ntmps115
    go_wp2_with fail
    refine wp_scope_fwd 1 ?_
    go_wp2_with go_step3
    refine fwd_goto _ rfl ?_
    go_wp2_with go_step3
    rw [fwd_ret]
    go_ret2
    exact ⟨by rw [HR.out]; rfl, ((Below.refl _ _).alloc (Nat.le_refl _) _).alloc (by simp) _⟩

/-- Are words a name's? -/
def sameL (s : List UInt8) (f : Nat → Nat) (many : Int) : Bool := (readL f many).2 == 0 && (readL f many).1 == s
end Go.Proofs.YtdpooagnbmpinaaGreatDoor
