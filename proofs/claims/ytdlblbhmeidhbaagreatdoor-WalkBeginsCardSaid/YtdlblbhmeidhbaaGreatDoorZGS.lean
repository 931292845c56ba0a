/- The contract of begun. Conditions: none. -/
import Derived.Test.YtdlblbhmeidhbaaGreatDoorZGR
import Derived.Test.YtdlblbhmeidhbaaGreatDoorZC5
namespace Go.Proofs.YtdlblbhmeidhbaaGreatDoor
open Go.RowKit

/-- Whether a walk may begin: 0, or an error. -/
def begunN (s : List UInt8) (nf : Nat) : Int := if (readP s).1 = 0 then (if 20000 < nf then 3 else 0) else (readP s).1
/-- What begun leaves. -/
structure Begun (FA : Option Addr) (nf cf : Nat) (fed : List Nat) (nm : List (List UInt8)) (W W' : World) (R : Nat) (NA : Option Addr) (cn : Nat) : Prop where
  rd : RdAt R FA nf cf fed [] W'
  at_ : R + 1 = W'.heap.size
  below : Below W.heap.size W W'
  lt : W.heap.size ≤ R
  cap : nm.length ≤ cn
  row : RowAt W' NA (nm.map fun x => .string (ofBytes x))
  na : 0 < nm.length → ∀ b off, NA = some ⟨b, off, none⟩ → b < R
variable {FA : Option Addr} {nf cf : Nat} {fed : List Nat}
set_option maxRecDepth 100000 in
set_option maxHeartbeats 4000000 in
theorem begun_any (s : ByteArray) (W : World) (hs : s.size < 4294967281) (hfl : fed.length = nf) (hnf : nf ≤ maxLen) (hrow : RowAt W FA (fed.map encW)) :
    Calls Tryz.prog 16 #[.string s, .slice FA nf cf] W fun e W' => ∃ R NA cn, e = .returned (.tuple #[.pointer (some ⟨R, 0, none⟩), .slice NA (readP (bytesOf s)).2.length cn, .int .i64 (begunN (bytesOf s) nf)]) ∧ Begun FA nf cf fed (readP (bytesOf s)).2 W W' R NA cn := by
  have HS := Lib.hid (fun W => psplit_any s W hs)
  have hcs := readP_cases (bytesOf s)
  unfold SplitPPost at HS
  have HBN : Hid (begunN (bytesOf s) nf = if (readP (bytesOf s)).1 = 0 then (if 20000 < nf then 3 else 0) else (readP (bytesOf s)).1) := rfl
  have HFL := Lib.hid hfl
  generalize readP (bytesOf s) = rp at *
  obtain ⟨z, nm⟩ := rp
  simp only at HS HBN hcs ⊢
  have HROW := Lib.hid hrow
  clear hrow hfl
  have hfin : ∀ (w1 : World) (v : Value), PathAt w1 v nm → Below W.heap.size W w1 → ∃ NA cn, v = .slice NA nm.length cn ∧ Begun FA nf cf fed nm W (w1.alloc (.cells #[.slice FA nf cf, .slice none 0 0] 59)) w1.heap.size NA cn := by
    rintro w1 v ⟨NA, cn, rfl, hc, _, hr⟩ hb
    refine ⟨NA, cn, rfl, ⟨⟨by simp, cell_new w1 _ _ 0 _ rfl, HFL.out, (HROW.out.below hb).alloc _, fun hp b off e => ?_, ⟨.slice none 0 0, cell_new w1 _ _ 1 _ rfl, World.ownsRow_nil _ _ _ _⟩, ?_⟩, by simp, hb.alloc hb.size _, hb.size, hc, hr.alloc _, ?_⟩⟩
    · obtain ⟨b', off', e', hb', _⟩ := HROW.out (by rw [List.length_map]; exact hp)
      rw [e] at e'
      cases e'
      exact Nat.lt_of_lt_of_le hb' hb.size
    · exact (World.frozen?_of_block (w := w1.alloc (.cells #[.slice FA nf cf, .slice none 0 0] 59)) rfl).trans (by simp)
    · intro hpos b off e
      obtain ⟨b', off', e', hb', _⟩ := hr (by simpa using hpos)
      rw [e] at e'
      cases e'
      exact hb'
  have HFIN := Lib.hid hfin
  clear hfin
  generalize nm.length = nn at *
  unfold maxLen at hnf
  by_cases hz : z = 0
  · subst hz
    by_cases hl : 20000 < nf
    · have HE : Hid (begunN (bytesOf s) nf = 3) := by rw [Hid, HBN.out, if_pos rfl, if_pos hl]
      have hl' : (20000 : Int) < (nf : Int) := by omega
      clear hcs HBN
      go_enter Tryz.func16, Tryz.ntmps16
      go_wp2_with fail
      refine (HS.out _).mono ?_
      rintro e w1 ⟨v, rfl, hp, hb1, _⟩
      obtain ⟨NA, cn, rfl, hbg⟩ := HFIN.out w1 v hp hb1
      clear hp hb1
      go_wp2_with fail
      refine bodyPost_ret (v := .tuple #[.pointer (some ⟨w1.heap.size, 0, none⟩), .slice NA nn cn, .int .i64 3]) (by simp [results, Tryz.results16, go_sem]) rfl ⟨w1.heap.size, NA, cn, by rw [HE.out], hbg⟩
    · have HE : Hid (begunN (bytesOf s) nf = 0) := by rw [Hid, HBN.out, if_pos rfl, if_neg hl]
      have hl' : ¬ (20000 : Int) < (nf : Int) := by omega
      clear hcs HBN
      go_enter Tryz.func16, Tryz.ntmps16
      go_wp2_with fail
      refine (HS.out _).mono ?_
      rintro e w1 ⟨v, rfl, hp, hb1, _⟩
      obtain ⟨NA, cn, rfl, hbg⟩ := HFIN.out w1 v hp hb1
      clear hp hb1
      go_wp2_with fail
      refine bodyPost_ret (v := .tuple #[.pointer (some ⟨w1.heap.size, 0, none⟩), .slice NA nn cn, .int .i64 0]) (by simp [results, Tryz.results16, go_sem]) rfl ⟨w1.heap.size, NA, cn, by rw [HE.out], hbg⟩
  · have HE : Hid (begunN (bytesOf s) nf = z) := by rw [Hid, HBN.out, if_neg hz]
    have hz' : (z == 0) = false := by rw [beq_eq_false_iff_ne]; exact hz
    clear hcs HBN
    go_enter Tryz.func16, Tryz.ntmps16
    go_wp2_with fail
    refine (HS.out _).mono ?_
    rintro e w1 ⟨v, rfl, hp, hb1, _⟩
    obtain ⟨NA, cn, rfl, hbg⟩ := HFIN.out w1 v hp hb1
    clear hp hb1
    go_wp2_with fail
    refine bodyPost_ret (v := .tuple #[.pointer (some ⟨w1.heap.size, 0, none⟩), .slice NA nn cn, .int .i64 z]) (by simp [results, Tryz.results16, go_sem]) rfl ⟨w1.heap.size, NA, cn, by rw [HE.out], hbg⟩
end Go.Proofs.YtdlblbhmeidhbaaGreatDoor
