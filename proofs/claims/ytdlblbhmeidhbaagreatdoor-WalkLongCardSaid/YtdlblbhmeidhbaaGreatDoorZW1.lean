/- Contracts of what packs bytes in words: the closure of word.Words, word.folded. Conditions: none. -/
import Derived.Test.YtdlblbhmeidhbaaGreatDoorZK3
import Derived.Laws.BitsAllLaws
namespace Go.Proofs.YtdlblbhmeidhbaaGreatDoor
open Go.RowKit
attribute [local go_sem] Oper.semAt_some

/-- Bytes as a number, the first one lowest. -/
def leN : List UInt8 → Nat
  | [] => 0
  | b :: bs => b.toNat + 256 * leN bs
theorem leN_lt : ∀ l : List UInt8, leN l < 256 ^ l.length
  | [] => by simp [leN]
  | b :: bs => by
    have h1 := leN_lt bs
    have h2 := b.toNat_lt
    rw [leN, List.length_cons, Nat.pow_succ]
    omega
theorem leN_le {l : List UInt8} {k : Nat} (h : l.length ≤ k) : leN l < 256 ^ k := Nat.lt_of_lt_of_le (leN_lt l) (Nat.pow_le_pow_right (by decide) h)
/-- A byte as a value. -/
def encB (c : UInt8) : Value := .int .u8 (c.toNat : Nat)

theorem or_pack (a d : Nat) (ha : a < 72057594037927936) (hd : d < 256) : bits .or .u64 ((a : Int) * 256) (d : Int) = ((d + 256 * a : Nat) : Int) := by
  have e : ((a : Int) * 256) = ((a * 256 : Nat) : Int) := by simp
  rw [e, u64_or_nat _ _ (by omega) (by omega)]
  have := Nat.shiftLeft_add_eq_or_of_lt (show d < 2 ^ 8 from hd) a
  rw [Nat.shiftLeft_eq] at this
  rw [← this, Nat.add_comm, Nat.mul_comm a]

theorem closure_words (a d : Nat) (w : World) (ha : a < 72057594037927936) (hc : d < 256) :
    Calls Tryz.prog 117 #[.int .u64 a, .int .u8 d] w fun e w' => e = .returned (.int .u64 (d + 256 * a : Nat)) ∧ w = w' := by
  have hor := or_pack a d ha hc
  generalize d + 256 * a = r at *
  go_enter Tryz.func117, Tryz.ntmps117
  go_wp2
  go_ret
  exact ⟨rfl, rfl⟩

set_option maxRecDepth 100000 in
set_option maxHeartbeats 1000000 in
theorem folded_any (bs : List UInt8) (A : Option Addr) (n c : Nat) (w : World) (hn : bs.length = n) (hm : n ≤ 8) (h : RowAt w A (bs.map encB)) :
    Calls Tryz.prog 116 #[.int .u64 0, .func (.func 117) #[] #[], .slice A n c] w fun e w' => e = .returned (.int .u64 (leN bs.reverse : Nat)) ∧ w = w' := by
  have HR := Lib.hid h
  have HN := Lib.hid hn
  clear h hn
  rcases Nat.eq_zero_or_pos n with h0 | h0
  · subst h0
    have HX : Hid (bs = []) := List.eq_nil_of_length_eq_zero HN.out
    go_enter Tryz.func116, Tryz.ntmps116
    go_wp2_with fail
    refine wp_loop_rounds 1 ?_
    rw [rounds_succ]
    go_wp2_with fail
    go_ret
    exact ⟨by rw [HX.out]; rfl, rfl⟩
  · obtain ⟨b, off, rfl, hbx⟩ := HR.out (by rw [List.length_map, HN.out]; exact h0)
    clear hbx
    go_enter Tryz.func116, Tryz.ntmps116
    go_wp2_with fail
    go_loopw [0, 11] (fun z i wr => ∃ k : Nat, k ≤ n ∧ i = .int .i64 k ∧ z = .int .u64 (leN (bs.take k).reverse : Nat) ∧ wr = w) (fun _ i _ => n - (intOf i).toNat)
    case atStart => exact ⟨0, Nat.zero_le _, rfl, rfl, rfl⟩
    case round =>
      obtain ⟨k, hk, rfl, rfl, rfl⟩ := hrel
      by_cases hlt : k < n
      · have hk' : k < bs.length := by rw [HN.out]; exact hlt
        obtain ⟨b', off', e', hb', hc⟩ := HR.out.get (k := k) (u := encB bs[k]) (by rw [List.getElem?_map, List.getElem?_eq_getElem hk']; rfl)
        cases e'
        have HD : Hid (leN (bs.take (k + 1)).reverse = bs[k].toNat + 256 * leN (bs.take k).reverse) := by
          rw [Hid, List.take_succ_eq_append_getElem hk', List.reverse_append]; rfl
        have hl : leN (bs.take k).reverse < 72057594037927936 :=
          leN_le (k := 7) (by rw [List.length_reverse, List.length_take]; omega)
        unfold encB at hc
        have hx : bs[k].toNat < 256 := bs[k].toNat_lt
        generalize bs[k].toNat = x at *
        generalize leN (bs.take k).reverse = a at *
        have HCL := Lib.hid (closure_words a x wr hl hx)
        go_wp2_with (go_at_call 117; refine HCL.out.mono ?_; rintro e w' ⟨rfl, rfl⟩)
        exact ⟨⟨k + 1, by omega, by go_num, congrArg (Value.int .u64) (by rw [HD.out]; omega), trivial⟩, by simp [intOf]; omega⟩
      · have hkn : k = n := by omega
        subst hkn
        have HE : Hid (bs.take bs.length = bs) := List.take_length
        go_wp2_with fail
        go_ret
        exact ⟨by rw [← HN.out, HE.out]; rfl, rfl⟩
end Go.Proofs.YtdlblbhmeidhbaaGreatDoor
