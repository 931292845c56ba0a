/- Contracts of the document's answers for sums and buckets. Conditions: none. -/
import Derived.Test.YtdlblbhmeidhbaaGreatDoorZG4
namespace Go.Proofs.YtdlblbhmeidhbaaGreatDoor
open Go.RowKit

set_option maxRecDepth 100000 in
set_option maxHeartbeats 1000000 in
theorem refMore_any (xs : List Nat) (A : Option Addr) (n c s : Nat) (w : World) (hn : xs.length = n) (hm : n ≤ 100000) (hx : ∀ x ∈ xs, x < 18446744073709551616) (hs : s < 18446744073709551616) (h : RowAt w A (xs.map encW)) :
    Calls Tryz.prog 119 #[.int .u64 s, .slice A n c] w fun e w' => e = .returned (.int .u64 (moreN s xs : Nat)) ∧ w' = w := by
  have HN := Lib.hid hn
  have HR := Lib.hid h
  have HX := Lib.hid hx
  have HS := Lib.hid hs
  clear h hn hx hs
  go_enter Tryz.func119, Tryz.ntmps119
  go_wp2_with fail
  go_loopw [0, 5] (fun z i wr => ∃ k : Nat, k ≤ n ∧ i = .int .i64 k ∧ z = .int .u64 (moreN s (xs.take k) : Nat) ∧ wr = w) (fun _ i _ => n - (intOf i).toNat)
  case atStart => exact ⟨0, Nat.zero_le _, rfl, rfl, rfl⟩
  case round =>
    obtain ⟨k, hk, rfl, rfl, rfl⟩ := hrel
    by_cases hlt : k < n
    · have hkl : k < xs.length := by rw [HN.out]; exact hlt
      obtain ⟨b, off, rfl, hbw, hcx⟩ := HR.out.get (k := k) (u := encW xs[k]) (by rw [List.getElem?_map, List.getElem?_eq_getElem hkl]; rfl)
      have hx64 := HX.out xs[k] (List.getElem_mem hkl)
      have HT := Lib.hid (moreN_take (s := s) hkl)
      have HL := Lib.hid (moreN_lt (xs.take k) HS.out)
      unfold encW at hcx
      generalize xs[k] = x at *
      generalize moreN s (xs.take k) = m at *
      have h1 := mix_xor m x HL.out hx64
      have h2 := u64_xor_nat m x HL.out hx64
      rw [h2] at h1
      generalize m ^^^ x = y at *
      go_wp2_with fail
      exact ⟨⟨k + 1, by omega, by go_num, by rw [HT.out], trivial⟩, by simp [intOf]; omega⟩
    · obtain rfl : k = n := by omega
      have HE : Hid (xs.take k = xs) := List.take_of_length_le (by rw [HN.out]; exact Nat.le_refl _)
      go_wp2_with fail
      go_ret
      exact ⟨by rw [HE.out]; rfl, rfl⟩
set_option maxRecDepth 100000 in
theorem refOf_any (xs : List Nat) (A : Option Addr) (n c : Nat) (w : World) (hn : xs.length = n) (hm : n ≤ 100000) (hx : ∀ x ∈ xs, x < 18446744073709551616) (h : RowAt w A (xs.map encW)) :
    Calls Tryz.prog 98 #[.slice A n c] w fun e w' => e = .returned (.int .u64 (moreN 14695981039346656037 xs : Nat)) ∧ w' = w := by
  have HM := refMore_any xs A n c 14695981039346656037 w hn hm hx (by decide) h
  generalize moreN 14695981039346656037 xs = y at *
  have HM := Lib.hid HM
  clear h hx hn
  go_enter Tryz.func98, Tryz.ntmps98
  go_wp2_with fail
  refine HM.out.mono ?_
  rintro e w1 ⟨rfl, rfl⟩
  go_wp2_with fail
  go_ret
  exact ⟨rfl, rfl⟩
set_option maxRecDepth 100000 in
set_option maxHeartbeats 1000000 in
theorem refText_any (bs : List UInt8) (A : Option Addr) (n c : Nat) (w : World) (hn : bs.length = n) (hm : n ≤ 300) (h : RowAt w A (bs.map encB)) :
    Calls Tryz.prog 71 #[.slice A n c] w fun e w' => e = .returned (.int .u64 (textN bs : Nat)) ∧ Below w.heap.size w w' := by
  obtain ⟨i0, hi, hz0, hz1, hz2⟩ := info_parts Tryz.infoU64
  have HW := Lib.hid (refwords_any bs A n c w hn (by omega) h)
  have HN := Lib.hid hn
  have hu : IntKind.u64.wrap (n : Int) = (n : Int) := IntWalk.u64_in _ (by omega)
  have H1 : Hid (∀ l : List Nat, ∀ u ∈ l.map encW, u.oneCell' = true) := fun l u hu => by
    obtain ⟨x, _, rfl⟩ := List.mem_map.1 hu; rfl
  clear h hn
  go_enter Tryz.func71, Tryz.ntmps71
  go_wp2_with fail
  refine HW.out.mono ?_
  rintro e w1 ⟨v, rfl, hown, hb1⟩
  have HO := Lib.hid hown
  have HB1 := Lib.hid hb1
  clear hown hb1
  have hsz := HB1.out.size
  have HRO : Hid (∀ t, RowAt (w1.alloc (.cells #[.int .u64 n] t)) (some ⟨w1.heap.size, 0, none⟩) [encW n]) := fun t =>
    row_of_own (World.ownsRow_lit w1 #[encW n] 1 (Nat.le_refl _) (by simp [maxLen]) (by simp))
  go_wp2_with (at_builtin; refine wpList_append_row _ (by rfl) (.tmp 4) (.tmp 8) 24 rfl w.heap.size 23 i0 (.int .u64 0) 8 Tryz.underlying24 hi hz0 hz1 hz2 rfl _ ((n + 7) / 8) ((wordsN bs).map encW) rfl (HO.out.alloc _) (some ⟨w1.heap.size, 0, none⟩) 1 1 [encW n] rfl rfl (HRO.out _) (H1.out [n]) ?c1 ?c2 ?c3 ?_)
  case c1 => unfold maxLen; omega
  case c2 => omega
  case c3 => simp; omega
  intro v1 w2 hown1 hg1
  have HLT := Lib.hid (HO.out.lt)
  have HB2 : Hid (Below w.heap.size w w2) := (HB1.out.alloc hsz _).grown hg1 (by simp; omega) (fun r e => (HLT.out r e).1)
  have HT : Hid (textN bs = moreN 14695981039346656037 (wordsN bs ++ [n])) := by unfold textN; rw [HN.out]; rfl
  have hown2 : w2.ownsRow w.heap.size 23 1 v1 ((n + 7) / 8 + 1) ((wordsN bs ++ [n]).map encW) := by rw [List.map_append]; exact hown1
  clear hown1 hg1 HLT HRO HO
  obtain ⟨m, hm1⟩ : ∃ m : Nat, (n + 7) / 8 + 1 = m := ⟨_, rfl⟩
  rw [hm1] at hown2
  obtain ⟨A2, c2, rfl, hc2, hcm2⟩ := owns_slice hown2
  have HOF := Lib.hid (refOf_any (wordsN bs ++ [n]) A2 m c2 w2 (by rw [List.length_append, wordsN_length, HN.out]; exact hm1) (by omega) (fun x hx => by
    rcases List.mem_append.1 hx with h | h
    · exact wordsN_lt x h
    · rw [List.mem_singleton.1 h]; omega) (row_of_own hown2))
  clear hown2
  go_wp2_with fail
  refine HOF.out.mono ?_
  rintro e w3 ⟨rfl, rfl⟩
  go_wp2_with fail
  go_ret
  exact ⟨by rw [HT.out]; rfl, HB2.out⟩
set_option maxRecDepth 100000 in
set_option maxHeartbeats 1000000 in
theorem refBucket_any (s : ByteArray) (w : World) (h40 : s.size ≤ 200) :
    Calls Tryz.prog 53 #[.string s] w fun e w' => e = .returned (.int .i64 (bucketN (bytesOf s) : Nat)) ∧ Below w.heap.size w w' := by
  have hconv := fun W => Lib.run_convert_string_bytes (P := Tryz.prog) W 9 121 5 s Tryz.underlyingStr Tryz.underlyingBytes Tryz.underlyingByte
  have hrem := rem_seven (textN (bytesOf s))
  have hb7 : (textN (bytesOf s) % 7 : Nat) < 7 := Nat.mod_lt _ (by decide)
  have HBN : Hid (bucketN (bytesOf s) = textN (bytesOf s) % 7) := rfl
  go_enter Tryz.func53, Tryz.ntmps53
  go_wp2_with fail
  have hbB := below_bytes w 5 s
  have hrow := row_bytes w 5 s
  clear hconv
  refine (refText_any (bytesOf s) _ s.size _ _ rfl (by omega) hrow).mono ?_
  rintro e w3 ⟨rfl, hb3⟩
  have HB3 := Lib.hid (hbB.trans (hb3.mono (by rw [Lib.bytesWorld_size]; omega)))
  clear hb3 hrow hbB
  generalize textN (bytesOf s) = t at *
  generalize t % 7 = r at *
  have hu : IntKind.i64.wrap (r : Int) = (r : Int) := IntWalk.i64_in _ (by omega)
  go_wp2_with fail
  go_ret
  exact ⟨by rw [HBN.out]; rfl, HB3.out⟩
end Go.Proofs.YtdlblbhmeidhbaaGreatDoor
