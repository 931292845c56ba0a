/- Contracts of sums of bytes: sum.Of, sum.Text, label.Bucket, and the document's answers for them. Conditions: none. -/
import Derived.Test.YtgkmcooahjoagaaQ1
import Derived.Test.YtgkmcooahjoagaaW6
import Derived.Test.YtgkmcooahjoagaaK9
namespace Go.Proofs.Ytgkmcooahjoagaa
open Go.RowKit

/-- The sum of bytes. -/
def textN (bs : List UInt8) : Nat := moreN 14695981039346656037 (wordsN bs ++ [bs.length])
theorem textN_lt (bs : List UInt8) : textN bs < 18446744073709551616 := moreN_lt _ (by decide)
set_option maxRecDepth 100000 in
theorem of_any (xs : List Nat) (A : Option Addr) (n c : Nat) (w : World) (hn : xs.length = n) (hm : n ≤ 4096) (hx : ∀ x ∈ xs, x < 18446744073709551616) (h : RowAt w A (xs.map encW)) (hA : ∀ b off, A = some ⟨b, off, none⟩ → b < w.heap.size) :
    Calls Try.prog 43 #[.slice A n c] w fun e w' => e = .returned (.tuple #[.int .u64 (moreN 14695981039346656037 xs : Nat), .int .i64 0]) ∧ Below w.heap.size w w' := by
  have HM := more_any xs A n c 14695981039346656037 w hn hm hx (by decide) h hA
  generalize moreN 14695981039346656037 xs = y at *
  have HM := Lib.hid HM
  clear h hA hx hn
  go_enter Try.func43, Try.ntmps43
  go_wp2_with fail
  refine HM.out.mono ?_
  rintro e w1 ⟨rfl, hb1⟩
  go_wp2_with fail
  go_ret2
  exact ⟨rfl, hb1⟩
set_option maxRecDepth 100000 in
set_option maxHeartbeats 1000000 in
theorem text_any (bs : List UInt8) (b off n c : Nat) (w : World) (hn : bs.length = n) (hm : n ≤ 300) (hnc : n ≤ c) (hc : c ≤ maxLen) (h : RowAt w (some ⟨b, off, none⟩) (bs.map encB)) (hb : b < w.heap.size) :
    Calls Try.prog 28 #[.slice (some ⟨b, off, none⟩) n c] w fun e w' => e = .returned (.tuple #[.int .u64 (textN bs : Nat), .int .i64 0]) ∧ Below w.heap.size w w' := by
  obtain ⟨i0, hi, hz0, hz1, hz2⟩ := info_parts Try.infoU64
  have HW := Lib.hid (words_any bs b off n c w hn (by omega) hnc hc h hb)
  have HN := Lib.hid hn
  have hu : IntKind.u64.wrap (n : Int) = (n : Int) := IntWalk.u64_in _ (by omega)
  have H1 : Hid (∀ l : List Nat, ∀ u ∈ l.map encW, u.oneCell' = true) := fun l u hu => by
    obtain ⟨x, _, rfl⟩ := List.mem_map.1 hu; rfl
  clear h hb hn
  go_enter Try.func28, Try.ntmps28
  go_wp2_with fail
  refine HW.out.mono ?_
  rintro e w1 ⟨v, rfl, hown, hb1⟩
  have HO := Lib.hid hown
  have HB1 := Lib.hid hb1
  clear hown hb1
  have hsz := HB1.out.size
  have HRO : Hid (∀ t, RowAt (w1.alloc (.cells #[.int .u64 n] t)) (some ⟨w1.heap.size, 0, none⟩) [encW n]) := fun t =>
    row_of_own (World.ownsRow_lit w1 #[encW n] 1 (Nat.le_refl _) (by simp [maxLen]) (by simp))
  go_wp2_with (at_builtin; refine wpList_append_row _ (by rfl) (.tmp 14) (.tmp 18) 58 rfl w.heap.size 32 i0 (.int .u64 0) 8 Try.underlying58 hi hz0 hz1 hz2 rfl _ ((n + 7) / 8) ((wordsN bs).map encW) rfl (HO.out.alloc _) (some ⟨w1.heap.size, 0, none⟩) 1 1 [encW n] rfl rfl (HRO.out _) (H1.out [n]) ?c1 ?c2 ?c3 ?_)
  case c1 => unfold maxLen; omega
  case c2 => omega
  case c3 => simp; omega
  intro v1 w2 hown1 hg1
  have HLT := Lib.hid (HO.out.lt)
  have HB2 : Hid (Below w.heap.size w w2) := (HB1.out.alloc hsz _).grown hg1 (by simp; omega) (fun r e => (HLT.out r e).1)
  have HT : Hid (textN bs = moreN 14695981039346656037 (wordsN bs ++ [n])) := by unfold textN; rw [HN.out]; rfl
  have hown2 : w2.ownsRow w.heap.size 32 1 v1 ((n + 7) / 8 + 1) ((wordsN bs ++ [n]).map encW) := by rw [List.map_append]; exact hown1
  clear hown1 hg1 HLT HRO HO
  obtain ⟨m, hm1⟩ : ∃ m : Nat, (n + 7) / 8 + 1 = m := ⟨_, rfl⟩
  rw [hm1] at hown2
  obtain ⟨A2, c2, rfl, hc2, hcm2⟩ := owns_slice hown2
  have HOF := Lib.hid (of_any (wordsN bs ++ [n]) A2 m c2 w2 (by rw [List.length_append, wordsN_length, HN.out]; exact hm1) (by omega) (fun x hx => by
    rcases List.mem_append.1 hx with h | h
    · exact wordsN_lt x h
    · rw [List.mem_singleton.1 h]; omega) (row_of_own hown2) (fun b off e => (hown2.lt b (by rw [e]; rfl)).2))
  clear hown2
  go_wp2_with fail
  refine HOF.out.mono ?_
  rintro e w3 ⟨rfl, hb3⟩
  go_wp2_with fail
  go_ret2
  exact ⟨by rw [HT.out]; rfl, below_trans HB2.out hb3⟩
/-- A name's bucket. -/
def bucketN (bs : List UInt8) : Nat := textN bs % 7
theorem rem_seven (t : Nat) : ((t : Int).tmod 7) = ((t % 7 : Nat) : Int) := by
  rw [Int.tmod_eq_emod_of_nonneg (Int.natCast_nonneg t)]; rfl
set_option maxRecDepth 100000 in
set_option maxHeartbeats 1000000 in
theorem bucket_any (s : ByteArray) (w : World) (hs : s.size ≤ maxLen) :
    Calls Try.prog 19 #[.string s] w fun e w' => e = .returned (.tuple #[.int .i64 (if rightB (bytesOf s) then bucketN (bytesOf s) else 0 : Nat), .int .i64 (errB (rightB (bytesOf s)))]) ∧ Below w.heap.size w w' := by
  have HC := Lib.hid (fun W => check_any s W hs)
  have HR : ∀ b, rightB (bytesOf s) = b → Hid (rightB s.data.toList = b) := fun _ h => h
  cases hr : rightB (bytesOf s)
  · have HR1 := HR _ hr
    clear HR hr
    go_enter Try.func19, Try.ntmps19
    go_wp2_with fail
    refine (HC.out _).mono ?_
    rintro e w1 ⟨rfl, hb1⟩
    rw [HR1.out]
    go_wp2_with fail
    go_ret2
    exact ⟨rfl, hb1⟩
  · have HR1 := HR _ hr
    obtain ⟨hl1, hl40⟩ := rightB_size hr
    rw [size_bytesOf] at hl1 hl40
    clear HR hr
    have hconv := fun W => Lib.run_convert_string_bytes (P := Try.prog) W 9 55 5 s Try.underlyingStr Try.underlyingBytes Try.underlyingByte
    have HCV := Lib.hid hconv
    clear hconv
    have hrem := rem_seven (textN (bytesOf s))
    have hb7 : (textN (bytesOf s) % 7 : Nat) < 7 := Nat.mod_lt _ (by decide)
    have HBN : Hid (bucketN (bytesOf s) = textN (bytesOf s) % 7) := rfl
    go_enter Try.func19, Try.ntmps19
    go_wp2_with fail
    refine (HC.out _).mono ?_
    rintro e w1 ⟨rfl, hb1⟩
    rw [HR1.out]
    have HB1 := Lib.hid hb1
    clear hb1
    have hconv := HCV.out
    go_wp2_with fail
    have hbB := below_bytes w1 5 s
    have hrow := row_bytes w1 5 s
    have hsB : (Lib.bytesWorld w1 5 s).heap.size = w1.heap.size + 1 := Lib.bytesWorld_size _ _ _
    have hcap1 := grownCap_ge w1 s.size 0 5
    have hcap2 := grownCap_le_maxLen w1 s.size 0 5 (by unfold maxLen; omega)
    clear hconv
    refine (text_any (bytesOf s) w1.heap.size 0 s.size _ _ rfl (by omega) hcap1 hcap2 hrow (by omega)).mono ?_
    rintro e w3 ⟨rfl, hb3⟩
    have HB3 := Lib.hid (below_trans HB1.out (hbB.trans (hb3.mono (by omega))))
    clear hb3 hrow hbB
    generalize textN (bytesOf s) = t at *
    generalize t % 7 = r at *
    have hu : IntKind.i64.wrap (r : Int) = (r : Int) := IntWalk.i64_in _ (by omega)
    go_wp2_with fail
    go_ret2
    exact ⟨by rw [HBN.out]; rfl, HB3.out⟩
end Go.Proofs.Ytgkmcooahjoagaa
