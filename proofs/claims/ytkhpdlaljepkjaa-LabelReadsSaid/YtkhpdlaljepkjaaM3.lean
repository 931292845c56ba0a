/- The contract of the document's answer for reading a name of words. Conditions: none. -/
import Derived.Test.YtkhpdlaljepkjaaP9
import Derived.Deep.RegionHeld3
namespace Go.Proofs.Ytkhpdlaljepkjaa
open Go.RowKit

def l5 (f : Nat → Nat) : List Nat := (List.range 5).map f
theorem l5_length (f : Nat → Nat) : (l5 f).length = 5 := by simp [l5]
theorem l5_lt {f : Nat → Nat} (hf : ∀ k, f k < 18446744073709551616) : ∀ a ∈ l5 f, a < 18446744073709551616 := fun a ha => by
  obtain ⟨k, _, rfl⟩ := List.mem_map.1 ha
  exact hf k
theorem byteW_five (f : Nat → Nat) {k : Nat} (h : k < 40) : byteW (l5 f) k = (byteOf (f (k / 8)) (k % 8)).toNat := by
  rw [byteW, l5, List.getD_eq_getElem?_getD, List.getElem?_map, List.getElem?_range (by omega), byteOf]
  simp
theorem bytes40_grow (f : Nat → Nat) {k : Nat} (h : k < 40) : (bytes40 f).take (k + 1) = (bytes40 f).take k ++ [byteOf (f (k / 8)) (k % 8)] := by
  rw [bytes40_eq, ← List.map_take, ← List.map_take, List.take_range, List.take_range, show min (k + 1) 40 = k + 1 by omega, show min k 40 = k by omega, List.range_succ, List.map_append]; rfl
theorem row_five {w : World} {b : Nat} {f : Nat → Nat} {t : TypeId} (h : w.heap[b]? = some (.cells #[.int .u64 (f 0 : Nat), .int .u64 (f 1 : Nat), .int .u64 (f 2 : Nat), .int .u64 (f 3 : Nat), .int .u64 (f 4 : Nat)] t (0, 0))) : RowAt w (some ⟨b, 0, none⟩) ((l5 f).map encW) := fun _ =>
  ⟨b, 0, rfl, (Array.getElem?_eq_some_iff.1 h).1, fun k u hu => by
    have hk : k < 5 := by have := (List.getElem?_eq_some_iff.1 hu).1; simpa [l5_length] using this
    rw [Nat.zero_add, cell_of_row _ _ _ _ _ _ h]
    match k, hk with
    | 0, _ => exact hu
    | 1, _ => exact hu
    | 2, _ => exact hu
    | 3, _ => exact hu
    | 4, _ => exact hu⟩

set_option maxRecDepth 100000 in
set_option maxHeartbeats 4000000 in
theorem refRead_any (f : Nat → Nat) (hf : ∀ k, f k < 18446744073709551616) (many : Int) (w : World) (hm : (Lit.int .i64 many).wf = true) :
    Calls Try.prog 15 #[encF f, .int .i64 many] w fun e w' => e = .returned (.tuple #[.string (ofBytes (readL f many).1), .bool ((readL f many).2 == 0)]) ∧ Below w.heap.size w w' := by
  obtain ⟨i0, hi, hz0, hz1, hz2⟩ := info_parts Try.infoU8
  have HM := Lib.hid hm
  clear hm
  by_cases h1 : 1 ≤ many
  · by_cases h40 : many ≤ 40
    · obtain ⟨n, rfl⟩ := Int.eq_ofNat_of_zero_le (show 0 ≤ many by omega)
      have HRD : ∀ b, isName f ((bytes40 f).take n) = b → Hid (readL f n = if b then ((bytes40 f).take n, 0) else ([], 161)) := fun b hb => by
        rw [Hid, readL, Int.toNat_natCast, hb]
        cases b
        · simp
        · rw [if_pos ⟨h1, h40, rfl⟩]; rfl
      have HF := Lib.hid hf
      unfold encF
      clear hf
      go_enter Try.func15, Try.ntmps15
      go_wp2_with fail
      go_loopw [6, 7] (fun v i wr => ∃ k : Nat, k ≤ n ∧ i = .int .i64 k ∧ wr.ownsRow (w.heap.size + 1) 5 1 v k (((bytes40 f).take k).map encB) ∧ Below w.heap.size w wr ∧ w.heap.size < wr.heap.size ∧ wr.heap[w.heap.size]? = some (.cells #[.int .u64 (f 0 : Nat), .int .u64 (f 1 : Nat), .int .u64 (f 2 : Nat), .int .u64 (f 3 : Nat), .int .u64 (f 4 : Nat)] 33 (0, 0))) (fun _ i _ => n - (intOf i).toNat)
      case atStart =>
        exact ⟨0, Nat.zero_le _, rfl, World.ownsRow_nil _ _ _ _, (Below.refl _ _).alloc (Nat.le_refl _) _, by simp, heap_alloc_new w _⟩
      case round =>
        obtain ⟨k, hk, rfl, hown, hb, hsw, hbx⟩ := hrel
        by_cases hlt : k < n
        · have HBY := Lib.hid (refbyte_any (l5 f) (some ⟨w.heap.size, 0, none⟩) 5 5 k wr (l5_length f) (by decide) (by omega) (l5_lt HF.out) (row_five hbx))
          rw [byteW_five f (by omega)] at HBY
          have HTS := Lib.hid (bytes40_grow f (k := k) (by omega))
          generalize hB : byteOf (f (k / 8)) (k % 8) = y at *
          have HOWN := Lib.hid hown
          have HB := Lib.hid hb
          have HBX := Lib.hid hbx
          have HLT := Lib.hid hown.lt
          have hsz := hb.size
          clear hown hb hbx hB
          go_wp2_with fail
          refine HBY.out.mono ?_
          rintro e w1 ⟨rfl, hb1⟩
          have HO1 := Lib.hid (owns_below HOWN.out hb1)
          have HB1 := Lib.hid (HB.out.trans (hb1.mono hsz))
          have HBX1 := Lib.hid ((hb1.block w.heap.size hsw).trans HBX.out)
          have hsw1 : w.heap.size < w1.heap.size := by have := hb1.size; omega
          clear hb1 HOWN HB HBX
          go_wp2_with (at_builtin; refine wpList_append_own _ rfl _ _ 51 rfl (w.heap.size + 1) 5 i0 (.int .u8 0) 1 1 Try.underlyingBytes hi hz0 hz1 hz2 rfl (by decide) _ _ _ rfl (HO1.out.alloc _) ⟨w1.heap.size, 0, none⟩ 1 1 [.int .u8 (y.toNat : Nat)] rfl rfl ?c1 ?c2 ?c3 ?c4 ?c5 ?_)
          case c1 =>
            intro j u hj
            match j, hj with
            | 0, hj =>
              simp at hj
              subst hj
              simp [Addr.add]
          case c2 => intro u hu; rw [List.mem_singleton.1 hu]; rfl
          case c3 => unfold maxLen; omega
          case c4 => omega
          case c5 => simp; omega
          intro v' w2 hown' hgrow _
          have hb2 : Below w.heap.size w w2 := (HB1.out.alloc (by omega) _).grown hgrow (by simp; omega) (fun j e => by have := (HLT.out j e).1; omega)
          have HO2 : Hid (w2.ownsRow (w.heap.size + 1) 5 1 v' (k + 1) (((bytes40 f).take (k + 1)).map encB)) := by
            rw [Hid, HTS.out, List.map_append, List.map_take]; exact hown'
          have HBX2 : Hid (w2.heap[w.heap.size]? = some (.cells #[.int .u64 (f 0 : Nat), .int .u64 (f 1 : Nat), .int .u64 (f 2 : Nat), .int .u64 (f 3 : Nat), .int .u64 (f 4 : Nat)] 33 (0, 0))) := by
            refine (hgrow.block w.heap.size (by simp; omega) (fun e => ?_)).trans ((Below.heap_alloc _ _ _ (by omega)).trans HBX1.out)
            have := (HLT.out _ e.symm).1; omega
          have hs2 : w.heap.size < w2.heap.size := by have := hgrow.size; simp at this; omega
          clear hgrow hown' HO1 HB1 HBX1
          go_wp2_with fail
          go_roundw
          case rel => exact ⟨k + 1, by omega, by go_num, HO2.out, hb2, hs2, HBX2.out⟩
          case measure => simp [intOf]; omega
        · have hkn : k = n := by omega
          subst hkn
          obtain ⟨A, cc, rfl, hcc, hcm⟩ := owns_slice hown
          have HTL : Hid (((bytes40 f).take k).length = k) := by rw [Hid, List.length_take, bytes40_length]; omega
          obtain ⟨g, off, rfl, hgl, hgc⟩ := row_of_own hown (by rw [List.length_map, HTL.out]; omega)
          have hcv : (convert 51 9 (.slice (some ⟨g, off, none⟩) k cc)).run Try.prog wr = .ok (.string (ofBytes ((bytes40 f).take k))) wr := by
            have := run_convert_bytes_back (P := Try.prog) wr 51 9 5 ⟨g, off, none⟩ cc ((bytes40 f).take k) Try.underlyingBytes Try.underlyingByte Try.underlyingStr (fun j hj => by
              rw [plain_add]
              refine hgc j _ ?_
              rw [List.getElem?_map, List.getElem?_eq_getElem hj]; rfl)
            rw [HTL.out] at this
            exact this
          have HBL : Hid ((ofBytes ((bytes40 f).take k)).size = k) := HTL.out
          have HA : Hid (Arr5 wr w.heap.size f) := by
            refine ⟨fun k hk => ?_, fun k => by simp [World.frozen?, hbx]⟩
            rw [cell_of_row _ _ _ _ _ _ hbx]
            match k, hk with
            | 0, _ => rfl
            | 1, _ => rfl
            | 2, _ => rfl
            | 3, _ => rfl
            | 4, _ => rfl
          have HB := Lib.hid hb
          have HSW := Lib.hid hsw
          clear hown hgc hb hbx
          have HRT := Lib.hid (fun W => refRight_any (ofBytes ((bytes40 f).take k)) W (by rw [HBL.out]; unfold maxLen; omega))
          have HWD := Lib.hid (fun W => refWords6_any (ofBytes ((bytes40 f).take k)) W (by rw [HBL.out]; omega) (by rw [HBL.out]; omega))
          have hn : ∀ l, rightB (ofBytes l).data.toList = rightB l := fun l => rfl
          have hn2 : ∀ l, bytesOf (ofBytes l) = l := fun l => rfl
          rw [hn] at HRT
          rw [hn2] at HWD
          have hneq := fun W => run_neq_five (wordAt ((bytes40 f).take k)) f W
          have hcase : (rightB ((bytes40 f).take k) = false ∧ Hid (readL f k = ([], 161))) ∨ (rightB ((bytes40 f).take k) = true ∧ eqF (wordAt ((bytes40 f).take k)) f = true ∧ Hid (readL f k = ((bytes40 f).take k, 0))) ∨ (rightB ((bytes40 f).take k) = true ∧ eqF (wordAt ((bytes40 f).take k)) f = false ∧ Hid (readL f k = ([], 161))) := by
            have hnm : isName f ((bytes40 f).take k) = (rightB ((bytes40 f).take k) && eqF (wordAt ((bytes40 f).take k)) f) := rfl
            cases hr : rightB ((bytes40 f).take k)
            · exact .inl ⟨rfl, by have := HRD false (by rw [hnm, hr]; rfl); rw [Hid, this.out]; rfl⟩
            · cases he : eqF (wordAt ((bytes40 f).take k)) f
              · exact .inr (.inr ⟨rfl, rfl, by have := HRD false (by rw [hnm, hr, he]; rfl); rw [Hid, this.out]; rfl⟩)
              · exact .inr (.inl ⟨rfl, rfl, by have := HRD true (by rw [hnm, hr, he]; rfl); rw [Hid, this.out]; rfl⟩)
          clear HRD hn hn2
          have HKS : ∀ w2 : World, Below wr.drew.heap.size wr.drew w2 → Hid (w2.cell? ⟨w.heap.size, 0, none⟩ = some (.int .u64 (f 0 : Nat)) ∧ w2.cell? ⟨w.heap.size, 1, none⟩ = some (.int .u64 (f 1 : Nat)) ∧ w2.cell? ⟨w.heap.size, 2, none⟩ = some (.int .u64 (f 2 : Nat)) ∧ w2.cell? ⟨w.heap.size, 3, none⟩ = some (.int .u64 (f 3 : Nat)) ∧ w2.cell? ⟨w.heap.size, 4, none⟩ = some (.int .u64 (f 4 : Nat))) := fun w2 hb2 => by
            have h2 : Arr5 w2 w.heap.size f := by
              have h3 : Arr5 wr.drew w.heap.size f := ⟨fun k hk => (HA.out.1 k hk), fun k => (HA.out.2 k)⟩
              exact h3.below hb2 HSW.out
            exact h2.five
          generalize (bytes40 f).take k = l at *
          rcases hcase with ⟨hr, HR⟩ | ⟨hr, he, HR⟩ | ⟨hr, he, HR⟩
          · rw [hr] at HRT
            clear hneq HWD hr
            go_wp2_with fail
            go_still_tail 8, (by kernel_rfl)
            still_call ((HRT.out _).mono fun _ _ ⟨he, hw⟩ => ⟨he, hw.symm⟩)
            repeat still_step
            refine wpStill_nil ?_
            go_wp2_with fail
            go_ret2
            exact ⟨by rw [HR.out]; rfl, HB.out.drew⟩
          all_goals
            rw [hr] at HRT
            rw [he] at hneq
            unfold encF at HWD hneq
            clear hr he
            generalize wordAt l = q at *
            go_wp2_with fail
            go_region_held3 (fun w1 => w1.cell? ⟨w.heap.size, 0, none⟩ = some (.int .u64 (f 0 : Nat)) ∧ w1.cell? ⟨w.heap.size, 1, none⟩ = some (.int .u64 (f 1 : Nat)) ∧ w1.cell? ⟨w.heap.size, 2, none⟩ = some (.int .u64 (f 2 : Nat)) ∧ w1.cell? ⟨w.heap.size, 3, none⟩ = some (.int .u64 (f 3 : Nat)) ∧ w1.cell? ⟨w.heap.size, 4, none⟩ = some (.int .u64 (f 4 : Nat)))
              (first | exact (HKS _ (Below.refl _ _)).out | exact (HKS _ hb2).out | go_keep)
              ((first | (go_at_call 9; refine (HRT.out _).mono ?_; rintro e w2 ⟨rfl, rfl⟩) | (go_at_call 23; refine (HWD.out _).mono ?_; rintro e w2 ⟨rfl, hb2⟩)))
            all_goals
              go_wp2_with fail
              go_ret2
              exact ⟨by rw [HR.out]; rfl, below_trans HB.out.drew hb2⟩
    · have HR : Hid (readL f many = ([], 161)) := if_neg (fun h => h40 h.2.1)
      unfold encF
      go_enter Try.func15, Try.ntmps15
      go_wp2_with fail
      go_ret2
      exact ⟨by rw [HR.out]; rfl, (Below.refl _ _).alloc (Nat.le_refl _) _⟩
  · have HR : Hid (readL f many = ([], 161)) := if_neg (fun h => h1 h.1)
    unfold encF
    go_enter Try.func15, Try.ntmps15
    go_wp2_with fail
    go_ret2
    exact ⟨by rw [HR.out]; rfl, (Below.refl _ _).alloc (Nat.le_refl _) _⟩
end Go.Proofs.Ytkhpdlaljepkjaa
