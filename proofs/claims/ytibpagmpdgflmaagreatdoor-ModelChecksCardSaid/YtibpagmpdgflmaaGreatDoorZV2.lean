/- Plain: bytes packed in words. No program in sight. The contract of the document's answer for words of bytes. Conditions: none. -/
import Derived.Test.YtibpagmpdgflmaaGreatDoorZW1
import Derived.Test.YtibpagmpdgflmaaGreatDoorZV1
import Derived.Test.YtibpagmpdgflmaaGreatDoorS1
import Derived.Laws.AppendOwn
import Derived.Laws.OwnMore
import Derived.Deep.AppendLies
import Derived.StillTailTactics
namespace Go.Proofs.YtibpagmpdgflmaaGreatDoor
open Go.RowKit

/-- The k-th word of bytes; the words. -/
def wordAt (bs : List UInt8) (k : Nat) : Nat := leN ((bs.drop (8 * k)).take 8)
def wordsN (bs : List UInt8) : List Nat := (List.range ((bs.length + 7) / 8)).map (wordAt bs)

theorem wordAt_lt (bs : List UInt8) (k : Nat) : wordAt bs k < 18446744073709551616 := by
  have := leN_le (l := (bs.drop (8 * k)).take 8) (k := 8) (by rw [List.length_take]; omega)
  unfold wordAt; exact this
theorem wordsN_lt {bs : List UInt8} : ∀ a ∈ wordsN bs, a < 18446744073709551616 := fun a ha => by
  obtain ⟨k, _, rfl⟩ := List.mem_map.1 ha
  exact wordAt_lt _ _
theorem wordsN_length (bs : List UInt8) : (wordsN bs).length = (bs.length + 7) / 8 := by simp [wordsN]
theorem wordAt_past {bs : List UInt8} {k : Nat} (h : bs.length ≤ 8 * k) : wordAt bs k = 0 := by
  rw [wordAt, List.drop_eq_nil_of_le h]; rfl
theorem leN_append : ∀ (l : List UInt8) (b : UInt8), leN (l ++ [b]) = leN l + 256 ^ l.length * b.toNat
  | [], b => by simp [leN]
  | c :: l, b => by
    rw [List.cons_append, leN, leN, leN_append l b, List.length_cons, Nat.pow_succ]
    have : 256 ^ l.length * 256 * b.toNat = 256 * (256 ^ l.length * b.toNat) := by
      rw [Nat.mul_comm (256 ^ l.length) 256, Nat.mul_assoc]
    omega

/-- What a word has when its first bytes have come. -/
theorem wordAt_take (bs : List UInt8) (i : Nat) : wordAt (bs.take i) (i / 8) = leN ((bs.drop (8 * (i / 8))).take (i % 8)) := by
  rw [wordAt, List.drop_take, List.take_take]
  congr 2
  omega
theorem wordAt_take_lt {bs : List UInt8} {i k : Nat} (h : k < i / 8) : wordAt (bs.take i) k = wordAt bs k := by
  rw [wordAt, wordAt, List.drop_take, List.take_take]
  congr 2
  omega
/-- The words ahead of byte i, its own word laid. -/
def midW (bs : List UInt8) (i : Nat) : List Nat := (List.range (i / 8 + 1)).map (wordAt (bs.take i))
theorem midW_length (bs : List UInt8) (i : Nat) : (midW bs i).length = i / 8 + 1 := by simp [midW]
theorem midW_last (bs : List UInt8) (i : Nat) : (midW bs i).getD (i / 8) 0 = leN ((bs.drop (8 * (i / 8))).take (i % 8)) := by
  rw [List.getD_eq_getElem?_getD, midW, List.getElem?_map, List.getElem?_range (by omega)]
  exact wordAt_take bs i
theorem words_mid0 {bs : List UInt8} {i : Nat} (h : i % 8 = 0) (hi : i ≤ bs.length) : wordsN (bs.take i) ++ [0] = midW bs i := by
  have hl : (bs.take i).length = i := by rw [List.length_take]; omega
  rw [wordsN, midW, hl, show (i + 7) / 8 = i / 8 by omega, List.range_succ, List.map_append]
  congr 1
  rw [List.map_cons, List.map_nil, wordAt_past (by rw [hl]; omega)]
theorem words_mid {bs : List UInt8} {i : Nat} (h : i % 8 ≠ 0) (hi : i ≤ bs.length) : wordsN (bs.take i) = midW bs i := by
  have hl : (bs.take i).length = i := by rw [List.length_take]; omega
  rw [wordsN, midW, hl, show (i + 7) / 8 = i / 8 + 1 by omega]
theorem drop_take_snoc {bs : List UInt8} {i : Nat} (hi : i < bs.length) : (bs.drop (8 * (i / 8))).take (i % 8 + 1) = (bs.drop (8 * (i / 8))).take (i % 8) ++ [bs[i]] := by
  have h1 : i % 8 < (bs.drop (8 * (i / 8))).length := by rw [List.length_drop]; omega
  rw [List.take_succ_eq_append_getElem h1, List.getElem_drop]
  congr 3
  omega
theorem mid_words {bs : List UInt8} {i : Nat} (hi : i < bs.length) : (midW bs i).set (i / 8) (leN ((bs.drop (8 * (i / 8))).take (i % 8)) + bs[i].toNat % 2 ^ 8 * 2 ^ (8 * (i % 8))) = wordsN (bs.take (i + 1)) := by
  have hl : (bs.take (i + 1)).length = i + 1 := by rw [List.length_take]; omega
  have hw : wordAt (bs.take (i + 1)) (i / 8) = leN ((bs.drop (8 * (i / 8))).take (i % 8)) + bs[i].toNat % 2 ^ 8 * 2 ^ (8 * (i % 8)) := by
    rw [wordAt, List.drop_take, List.take_take, show min 8 (i + 1 - 8 * (i / 8)) = i % 8 + 1 by omega, drop_take_snoc hi, leN_append]
    have e1 : ((bs.drop (8 * (i / 8))).take (i % 8)).length = i % 8 := by rw [List.length_take, List.length_drop]; omega
    have e2 : bs[i].toNat % 2 ^ 8 = bs[i].toNat := Nat.mod_eq_of_lt bs[i].toNat_lt
    rw [e1, e2, Nat.pow_mul, Nat.mul_comm (bs[i].toNat)]
  apply List.ext_getElem?
  intro k
  rw [List.getElem?_set, wordsN, hl, midW_length]
  by_cases hk : i / 8 = k
  · subst hk
    rw [if_pos rfl, if_pos (by omega), List.getElem?_map, List.getElem?_range (by omega)]
    exact congrArg some hw.symm
  · rw [if_neg hk, midW, List.getElem?_map, List.getElem?_map]
    by_cases hk2 : k < i / 8
    · rw [List.getElem?_range (by omega), List.getElem?_range (by omega)]
      show some _ = some _
      rw [wordAt_take_lt hk2, wordAt, wordAt, List.drop_take, List.take_take]
      congr 3
      omega
    · rw [List.getElem?_eq_none (by simp; omega), List.getElem?_eq_none (by simp; omega)]
      rfl
theorem chunk_lt (bs : List UInt8) (i : Nat) : leN ((bs.drop (8 * (i / 8))).take (i % 8)) < 2 ^ (8 * (i % 8)) := by
  have := leN_le (l := (bs.drop (8 * (i / 8))).take (i % 8)) (k := i % 8) (by rw [List.length_take]; omega)
  rwa [show (256 : Nat) = 2 ^ 8 by rfl, ← Nat.pow_mul] at this

/-- One bit more of a byte that stands at s. -/
theorem withN_byte {x s b k : Nat} (hx : x < 2 ^ s) : withN (x + b % 2 ^ k * 2 ^ s) (s + k) (b.testBit k) = x + b % 2 ^ (k + 1) * 2 ^ s := by
  have key : ∀ j, x + b % 2 ^ j * 2 ^ s = (x + b * 2 ^ s) % 2 ^ (s + j) := fun j => by
    rw [Nat.pow_add, Nat.mod_mul]
    have h1 : (x + b * 2 ^ s) % 2 ^ s = x := by rw [Nat.add_mul_mod_self_right, Nat.mod_eq_of_lt hx]
    have h2 : (x + b * 2 ^ s) / 2 ^ s = b := by rw [Nat.add_mul_div_right _ _ (Nat.two_pow_pos s), Nat.div_eq_of_lt hx, Nat.zero_add]
    rw [h1, h2, Nat.mul_comm]
  have hb : b.testBit k = (x + b * 2 ^ s).testBit (s + k) := by
    have h2 : (x + b * 2 ^ s) / 2 ^ s = b := by rw [Nat.add_mul_div_right _ _ (Nat.two_pow_pos s), Nat.div_eq_of_lt hx, Nat.zero_add]
    have := Nat.testBit_div_two_pow (n := s) (x + b * 2 ^ s) k
    rw [h2] at this; rw [this, Nat.add_comm k s]
  rw [hb, key, key, ← Nat.add_assoc]
  exact withN_grow _ _ _ rfl
end Go.Proofs.YtibpagmpdgflmaaGreatDoor

namespace Go.Proofs.YtibpagmpdgflmaaGreatDoor
open Go.RowKit

theorem Tryz.infoU64 : (Tryz.prog.info? 239).map (fun i => (i.zero, i.size, i.bytes)) = some (some (.int .u64 0), 1, 8) := by kernel_rfl
theorem map_set_encW (l : List Nat) (k a : Nat) : (l.set k a).map encW = (l.map encW).set k (encW a) := List.map_set
theorem owns_below {w w' : World} {base : Nat} {e : TypeId} {size : Nat} {v : Value} {n : Nat} {xs : List Value} (h : w.ownsRow base e size v n xs) (hb : Below w.heap.size w w') : w'.ownsRow base e size v n xs := by
  refine ⟨h.1, ?_⟩
  rcases h.2 with h0 | ⟨g, cap, cur, hv, hbase, hg, rest⟩
  · exact .inl h0
  · exact .inr ⟨g, cap, cur, hv, hbase, (hb.block g (Array.getElem?_eq_some_iff.1 hg).1).trans hg, rest⟩
theorem row_of_own {w : World} {base : Nat} {e : TypeId} {A : Option Addr} {n c : Nat} {xs : List Value} (h : w.ownsRow base e 1 (.slice A n c) n xs) : RowAt w A xs := fun hn => by
  have hx := h.1
  obtain ⟨g, cap, hv, _, hlt⟩ := h.form (by omega)
  injection hv with hA _ hc
  subst hA; subst hc
  refine ⟨g, 0, rfl, hlt, fun k u hu => ?_⟩
  have := (List.getElem?_eq_some_iff.1 hu).1
  rw [Nat.zero_add, h.cellAt k (by omega)]; exact hu

theorem set_self {l : List Nat} {i x : Nat} (h : l.getD i 0 = x) (hi : i < l.length) : l.set i x = l := by
  apply List.ext_getElem?
  intro k
  rw [List.getElem?_set]
  by_cases hk : i = k
  · subst hk
    rw [if_pos rfl, if_pos hi, ← h, List.getD_eq_getElem?_getD, List.getElem?_eq_getElem hi]; rfl
  · rw [if_neg hk]
theorem owns_set {w : World} {base : Nat} {e : TypeId} {g n cap : Nat} {l : List Nat} (h : w.ownsRow base e 1 (.slice (some ⟨g, 0, none⟩) n cap) n (l.map encW)) (j a : Nat) :
    (w.setCell ⟨g, j, none⟩ (.int .u64 a)).ownsRow base e 1 (.slice (some ⟨g, 0, none⟩) n cap) n ((l.set j a).map encW) := by
  have := h.stored j (.int .u64 a)
  rw [map_set_encW]; exact this.1

end Go.Proofs.YtibpagmpdgflmaaGreatDoor
