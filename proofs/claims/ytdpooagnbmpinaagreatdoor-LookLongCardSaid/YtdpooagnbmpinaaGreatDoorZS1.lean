import Derived.Test.YtdpooagnbmpinaaGreatDoorZK7
import Derived.Test.YtdpooagnbmpinaaGreatDoorZW1
import Derived.Laws.BitsAllLaws
import Derived.Laws.ShiftsVarLaws
import Derived.Lib.SplitLaws
import Derived.Lib.IndexLaws
import Derived.Lib.IndexBytes
namespace Go.Proofs.YtdpooagnbmpinaaGreatDoor
section
open Go.RowKit
theorem bit_any (a i : Nat) (w : World) (_ha : a < 18446744073709551616) (hi : i < 64) :
  Calls Tryz.prog 188 #[.int .u64 a,.int .i64 i] w fun e w' => e = .returned (.bool (a.testBit i)) ∧ w = w' := by
 have HT : Hid ((((a : Int) / 2 ^ i).tmod 2 == 1) = a.testBit i) := by
  rw [Hid,Nat.testBit_eq_decide_div_mod_eq]
  have e : ((a : Int) / 2 ^ i).tmod 2 = ((a / 2 ^ i % 2 : Nat) : Int) := by
   have h2 : ((2 : Int) ^ i) = ((2 ^ i : Nat) : Int) := by simp
   rw [h2,Int.tmod_eq_emod_of_nonneg (by exact_mod_cast Nat.zero_le (a / 2 ^ i))];simp
  rw [e,Bool.eq_iff_iff,beq_iff_eq,decide_eq_true_iff]
  exact ⟨fun h => by exact_mod_cast h,fun h => by exact_mod_cast h⟩
 go_enter Tryz.func188,Tryz.ntmps188
 go_wp2
 go_ret
 exact ⟨ret_bool' HT.out,rfl⟩
def withN (a i : Nat) (b : Bool) : Nat := if a.testBit i = b then a else a ^^^ 2 ^ i
theorem with_any (a i : Nat) (b : Bool) (w : World) (ha : a < 18446744073709551616) (hi : i < 64) :
  Calls Tryz.prog 187 #[.int .u64 a,.int .i64 i,.bool b] w fun e w' => e = .returned (.int .u64 (withN a i b : Nat)) ∧ w = w' := by
 have hp : 2 ^ i < 18446744073709551616 := Nat.pow_lt_pow_of_lt (a := 2) (n := i) (m := 64) (by decide) hi
 have hx : bits .xor .u64 (a : Int) (IntKind.u64.wrap ((2 : Int) ^ i)) = ((a ^^^ 2 ^ i : Nat) : Int) := by
  have := u64_xor_nat a (2 ^ i) ha hp
  have e : IntKind.u64.wrap ((2 : Int) ^ i) = ((2 ^ i : Nat) : Int) := by
   have e2 : ((2 : Int) ^ i) = ((2 ^ i : Nat) : Int) := by simp
   rw [e2]
   generalize 2 ^ i = q at hp
   simp only [IntKind.wrap,IntKind.bits,IntKind.signed]
   simp
   omega
  rw [e];exact this
 have hb := bit_any a i w ha hi
 have HW : ∀ c,a.testBit i = c -> Hid (withN a i b = if c = b then a else a ^^^ 2 ^ i) := fun c h => by rw [Hid,withN,h]
 generalize a.testBit i = c at *
 have HW' := Lib.hid (HW c rfl)
 have HB := Lib.hid hb
 clear hb HW hp
 generalize a ^^^ 2 ^ i = x at *
 by_cases hcb : c = b
 ·have HE : Hid (withN a i b = a) := by rw [Hid,HW'.out.out,if_pos hcb]
  have h1 : (c == b) = true := by simpa using hcb
  clear hcb
  go_enter Tryz.func187,Tryz.ntmps187
  go_wp2_with (go_at_call 188;refine HB.out.mono ?_;rintro e w' ⟨rfl,rfl⟩)
  go_ret
  exact ⟨by rw [HE.out];rfl,rfl⟩
 ·have HE : Hid (withN a i b = x) := by rw [Hid,HW'.out.out,if_neg hcb]
  have h1 : (c == b) = false := by simpa using hcb
  clear hcb
  go_enter Tryz.func187,Tryz.ntmps187
  go_wp2_with (go_at_call 188;refine HB.out.mono ?_;rintro e w' ⟨rfl,rfl⟩)
  go_ret
  exact ⟨by rw [HE.out];rfl,rfl⟩
theorem testBit_low {n i : Nat} (h : n < 2 ^ i) : n.testBit i = false := Nat.testBit_lt_two_pow h
theorem withN_grow (x n i : Nat) (h : n = x % 2 ^ i) : withN n i (x.testBit i) = x % 2 ^ (i + 1) := by
 have hlt : n < 2 ^ i := by rw [h];exact Nat.mod_lt _ (Nat.two_pow_pos i)
 rw [withN,testBit_low hlt]
 have hs : x % 2 ^ (i + 1) = x % 2 ^ i + 2 ^ i * (x / 2 ^ i % 2) := by rw [Nat.pow_succ,Nat.mod_mul]
 cases hb : x.testBit i
 ·rw [if_pos rfl,hs,h]
  rw [Nat.testBit_eq_decide_div_mod_eq] at hb
  have : x / 2 ^ i % 2 = 0 := by have := of_decide_eq_false hb;omega
  rw [this];simp
 ·rw [if_neg (by simp),hs,h]
  rw [Nat.testBit_eq_decide_div_mod_eq] at hb
  have h1 : x / 2 ^ i % 2 = 1 := by have := of_decide_eq_true hb;omega
  rw [h1,Nat.mul_one,<- h]
  have := Nat.two_pow_add_eq_or_of_lt hlt 1
  rw [Nat.mul_one] at this
  rw [Nat.add_comm,this]
  apply Nat.eq_of_testBit_eq
  intro j
  rw [Nat.testBit_xor,Nat.testBit_or]
  by_cases hj : j = i
  ·subst hj;rw [testBit_low hlt];simp
  ·have : (2 ^ i).testBit j = false := by
    rw [Nat.testBit_two_pow];simp;omega
   rw [this];simp
set_option maxRecDepth 100000 in
set_option maxHeartbeats 1000000 in
theorem get8_any (a f : Nat) (w : World) (ha : a < 18446744073709551616) (hf : f <= 56) :
  Calls Tryz.prog 128 #[.int .u64 a,.agg #[.int .i64 f,.int .i64 8]] w fun e w' => e = .returned (.int .u64 (a / 2 ^ f % 256 : Nat)) ∧ Below w.heap.size w w' := by
 have HB := Lib.hid (fun i W (hi : i < 64) => bit_any a i W ha hi)
 have HV := Lib.hid (fun n i b W (hn : n < 18446744073709551616) (hi : i < 64) => with_any n i b W hn hi)
 clear ha
 go_enter Tryz.func128,Tryz.ntmps128
 go_wp2_with fail
 go_loopw [5,6] (fun n i wr => ∃ k : Nat,k <= 8 ∧ i = .int .i64 k ∧ n = .int .u64 (a / 2 ^ f % 2 ^ k : Nat) ∧ wr = w.alloc (.cells #[.int .i64 f,.int .i64 8] 209)) (fun _ i _ => 8 - (intOf i).toNat)
 case atStart => exact ⟨0,Nat.zero_le _,rfl,by rw [Nat.pow_zero,Nat.mod_one];rfl,rfl⟩
 case round =>
  obtain ⟨k,hk,rfl,rfl,rfl⟩ := hrel
  by_cases hlt : k < 8
  ·have HN : Hid (withN (a / 2 ^ f % 2 ^ k) k (a.testBit (f + k)) = a / 2 ^ f % 2 ^ (k + 1)) := by
    have := withN_grow (a / 2 ^ f) _ k rfl
    rw [Nat.testBit_div_two_pow,Nat.add_comm k f] at this;exact this
   have hn : a / 2 ^ f % 2 ^ k < 18446744073709551616 := Nat.lt_of_lt_of_le (Nat.mod_lt _ (Nat.two_pow_pos k)) (Nat.pow_le_pow_right (n := 2) (i := k) (j := 64) (by decide) (by omega))
   have HN1 := Lib.hid hn
   clear hn
   generalize a / 2 ^ f % 2 ^ k = n at *
   go_wp2_with fail
   refine (HB.out (f + k) _ (by omega)).mono ?_
   rintro e w' ⟨rfl,rfl⟩
   go_wp2_with fail
   refine (HV.out n k _ _ HN1.out (by omega)).mono ?_
   rintro e w' ⟨rfl,rfl⟩
   go_wp2_with fail
   go_roundw
   case rel => exact ⟨k + 1,by omega,by go_num,by rw [HN.out],trivial⟩
   case measure => simp [intOf];omega
  ·have hk8 : k = 8 := by omega
   subst hk8
   go_wp2_with fail
   go_ret
   exact ⟨rfl,(Below.refl _ _).alloc (Nat.le_refl _) _⟩
def byteW (l : List Nat) (i : Nat) : Nat := l.getD (i / 8) 0 / 2 ^ (8 * (i % 8)) % 256
def encW (a : Nat) : Value := .int .u64 a
set_option maxRecDepth 100000 in
set_option maxHeartbeats 1000000 in
theorem refbyte_any (l : List Nat) (A : Option Addr) (n c i : Nat) (w : World) (hn : l.length = n) (hm : n <= 100000) (hi : i / 8 < n) (hl : ∀ a ∈ l,a < 18446744073709551616) (h : RowAt w A (l.map encW)) :
  Calls Tryz.prog 76 #[.slice A n c,.int .i64 i] w fun e w' => e = .returned (.int .u8 (byteW l i : Nat)) ∧ Below w.heap.size w w' := by
 have hi' : i / 8 < l.length := by rw [hn];exact hi
 obtain ⟨b,off,rfl,hb,hc⟩ := h.get (k := i / 8) (u := encW l[i / 8]) (by rw [List.getElem?_map,List.getElem?_eq_getElem hi'];rfl)
 have HB : Hid (byteW l i = l[i / 8] / 2 ^ (8 * (i % 8)) % 256) := by
  rw [Hid,byteW,List.getD_eq_getElem?_getD,List.getElem?_eq_getElem hi'];rfl
 have HG := Lib.hid (fun W => get8_any l[i / 8] (8 * (i % 8)) W (hl _ (List.getElem_mem hi')) (by omega))
 unfold encW at hc
 have hmod : l[i / 8] / 2 ^ (8 * (i % 8)) % 256 < 256 := Nat.mod_lt _ (by decide)
 generalize l[i / 8] / 2 ^ (8 * (i % 8)) % 256 = r at *
 generalize l[i / 8] = a at *
 clear hi' hl h hn
 have h0 : (0 : Int) <= (i : Int) / 8 := by omega
 have h1 : (i : Int) / 8 < (n : Int) := by omega
 have ha : ((i : Int) / 8).toNat = i / 8 := by omega
 go_enter Tryz.func76,Tryz.ntmps76
 go_wp2_with fail
 have hx : (8 * ((i : Int) % 8)) = ((8 * (i % 8) : Nat) : Int) := by omega
 rw [hx]
 clear hx
 refine (HG.out _).mono ?_
 rintro e w' ⟨rfl,hb1⟩
 go_wp2_with fail
 go_ret
 exact ⟨by rw [HB.out];rfl,hb1⟩
end
section
open Go
def splitL (c : UInt8) : List UInt8 -> List (List UInt8)
 | [] => [[]]
 | x :: xs => if x = c then [] :: splitL c xs else match splitL c xs with
  | [] => [[x]]
  | y :: ys => (x :: y) :: ys
theorem splitL_ne (c : UInt8) (l : List UInt8) : splitL c l ≠ [] := by
 cases l with
 | nil => simp [splitL]
 | cons x xs =>
  simp only [splitL]
  split
  ·simp
  ·split <;> simp
theorem splitL_cons_ne {c x : UInt8} (h : x ≠ c) {l : List UInt8} {y : List UInt8} {ys : List (List UInt8)} (e : splitL c l = y :: ys) : splitL c (x :: l) = (x :: y) :: ys := by
 simp [splitL,h,e]
theorem splitL_cons_eq (c : UInt8) (l : List UInt8) : splitL c (c :: l) = [] :: splitL c l := by
 simp [splitL]
theorem splitL_none {c : UInt8} : ∀ {l : List UInt8},c ∉ l -> splitL c l = [l]
 | [],_ => rfl
 | x :: xs,h => by
  have hx : x ≠ c := fun e => h (by simp [e])
  exact splitL_cons_ne hx (splitL_none (fun hm => h (by simp [hm])))
theorem splitL_append {c : UInt8} : ∀ {l : List UInt8} (r : List UInt8),c ∉ l -> splitL c (l ++ c :: r) = l :: splitL c r
 | [],r,_ => by simp [splitL]
 | x :: xs,r,h => by
  have hx : x ≠ c := fun e => h (by simp [e])
  exact splitL_cons_ne hx (splitL_append r (fun hm => h (by simp [hm])))
def joinL (c : UInt8) : List (List UInt8) -> List UInt8
 | [] => []
 | [x] => x
 | x :: xs => x ++ c :: joinL c xs
def bytesOf (s : ByteArray) : List UInt8 := s.data.toList
def ofBytes (l : List UInt8) : ByteArray := ⟨l.toArray⟩
theorem bytesOf_ofBytes (l : List UInt8) : bytesOf (ofBytes l) = l := rfl
theorem ofBytes_bytesOf (s : ByteArray) : ofBytes (bytesOf s) = s := rfl
theorem bytesOf_inj {a b : ByteArray} (h : bytesOf a = bytesOf b) : a = b := by rw [<- ofBytes_bytesOf a,h,ofBytes_bytesOf]
theorem size_bytesOf (s : ByteArray) : (bytesOf s).length = s.size := rfl
theorem bytesOf_extract (s : ByteArray) (i j : Nat) : bytesOf (s.extract i j) = ((bytesOf s).take j).drop i := by
 unfold bytesOf
 rw [ByteArray.data_extract,Array.toList_extract,List.extract_eq_take_drop,List.drop_take]
theorem splitB_eq (c : UInt8) : ∀ (k : Nat) (s : ByteArray),Lib.countB s ⟨#[c]⟩ = k -> (Lib.splitB ⟨#[c]⟩ 0 k s).map bytesOf = splitL c (bytesOf s)
 | 0,s,hk => by
  have hno : c ∉ bytesOf s := by
   intro hm
   have h0 : Lib.count s.data.toList [c] = 0 := hk
   rw [Lib.count_one] at h0
   exact absurd (List.count_eq_zero.1 h0) (fun h => h hm)
  rw [Lib.splitB_zero,splitL_none hno];rfl
 | k + 1,s,hk => by
  rcases Lib.indexB_cases s ⟨#[c]⟩ with hix | ⟨i,hix,hroom⟩
  ·rw [Lib.countB_miss s _ hix] at hk;omega
  ·have hi' : Lib.indexByte (bytesOf s) c = i := by rw [<- Lib.index_one];exact hix
   obtain ⟨h1,h2⟩ := Lib.indexByte_some hi'
   have hroom' : i + 1 <= s.size := hroom
   have hk' : Lib.countB (s.extract (i + 1) s.size) ⟨#[c]⟩ = k := by
    have := Lib.countB_hit s ⟨#[c]⟩ i (Nat.le_refl 1) hix
    have e : (⟨#[c]⟩ : ByteArray).size = 1 := rfl
    rw [e] at this;omega
   have e1 : (⟨#[c]⟩ : ByteArray).size = 1 := rfl
   rw [Lib.splitB_hit _ 0 k s i hix,e1,List.map_cons,splitB_eq c k _ hk',bytesOf_extract,bytesOf_extract,Nat.add_zero,List.drop_zero,<- size_bytesOf,List.take_length]
   have hsp : bytesOf s = (bytesOf s).take i ++ c :: (bytesOf s).drop (i + 1) := by
    have hlt : i < (bytesOf s).length := by rw [size_bytesOf];omega
    have hg : (bytesOf s)[i] = c := by rw [List.getElem?_eq_getElem hlt] at h1;exact Option.some.inj h1
    rw [<- hg,<- List.drop_eq_getElem_cons hlt,List.take_append_drop]
   have hn : c ∉ (bytesOf s).take i := by
    intro hm
    obtain ⟨j,hj,e⟩ := List.mem_iff_getElem.1 hm
    rw [List.length_take] at hj
    rw [List.getElem_take] at e
    exact h2 j (by omega) (by rw [List.getElem?_eq_getElem (by omega),e])
   conv => rhs;rw [hsp]
   rw [splitL_append _ hn]
theorem splitL_length {c : UInt8} : ∀ {l : List UInt8},∀ y ∈ splitL c l,y.length <= l.length
 | [],y,h => by simp [splitL] at h;subst h;simp
 | x :: xs,y,h => by
  by_cases hx : x = c
  ·subst hx
   rw [splitL_cons_eq] at h
   rcases List.mem_cons.1 h with h | h
   ·subst h;simp
   ·have := splitL_length y h;simp;omega
  ·cases e : splitL c xs with
   | nil => exact absurd e (splitL_ne c xs)
   | cons z zs =>
    rw [splitL_cons_ne hx e] at h
    rcases List.mem_cons.1 h with h | h
    ·subst h
     have := splitL_length (c := c) (l := xs) z (by rw [e];simp)
     simp;omega
    ·have := splitL_length (c := c) (l := xs) y (by rw [e];simp [h]);simp;omega
end
end Go.Proofs.YtdpooagnbmpinaaGreatDoor
