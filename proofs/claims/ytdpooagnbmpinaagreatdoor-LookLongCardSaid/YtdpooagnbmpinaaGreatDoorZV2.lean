import Derived.Test.YtdpooagnbmpinaaGreatDoorZW1
import Derived.Test.YtdpooagnbmpinaaGreatDoorZS1
import Derived.Laws.AppendOwn
import Derived.Laws.OwnMore
import Derived.Deep.AppendLies
import Derived.StillTailTactics
namespace Go.Proofs.YtdpooagnbmpinaaGreatDoor
section
open Go.RowKit
def wordAt (bs : List UInt8) (k : Nat) : Nat := leN ((bs.drop (8 * k)).take 8)
def wordsN (bs : List UInt8) : List Nat := (List.range ((bs.length + 7) / 8)).map (wordAt bs)
theorem wordAt_lt (bs : List UInt8) (k : Nat) : wordAt bs k < 18446744073709551616 := by
 have := leN_le (l := (bs.drop (8 * k)).take 8) (k := 8) (by rw [List.length_take];omega)
 unfold wordAt;exact this
theorem wordsN_lt {bs : List UInt8} : ∀ a ∈ wordsN bs,a < 18446744073709551616 := fun a ha => by
 obtain ⟨k,_,rfl⟩ := List.mem_map.1 ha
 exact wordAt_lt _ _
theorem wordsN_length (bs : List UInt8) : (wordsN bs).length = (bs.length + 7) / 8 := by simp [wordsN]
theorem wordAt_past {bs : List UInt8} {k : Nat} (h : bs.length <= 8 * k) : wordAt bs k = 0 := by
 rw [wordAt,List.drop_eq_nil_of_le h];rfl
theorem leN_append : ∀ (l : List UInt8) (b : UInt8),leN (l ++ [b]) = leN l + 256 ^ l.length * b.toNat
 | [],b => by simp [leN]
 | c :: l,b => by
  rw [List.cons_append,leN,leN,leN_append l b,List.length_cons,Nat.pow_succ]
  have : 256 ^ l.length * 256 * b.toNat = 256 * (256 ^ l.length * b.toNat) := by
   rw [Nat.mul_comm (256 ^ l.length) 256,Nat.mul_assoc]
  omega
theorem wordAt_take (bs : List UInt8) (i : Nat) : wordAt (bs.take i) (i / 8) = leN ((bs.drop (8 * (i / 8))).take (i % 8)) := by
 rw [wordAt,List.drop_take,List.take_take]
 congr 2
 omega
theorem wordAt_take_lt {bs : List UInt8} {i k : Nat} (h : k < i / 8) : wordAt (bs.take i) k = wordAt bs k := by
 rw [wordAt,wordAt,List.drop_take,List.take_take]
 congr 2
 omega
def midW (bs : List UInt8) (i : Nat) : List Nat := (List.range (i / 8 + 1)).map (wordAt (bs.take i))
theorem midW_length (bs : List UInt8) (i : Nat) : (midW bs i).length = i / 8 + 1 := by simp [midW]
theorem midW_last (bs : List UInt8) (i : Nat) : (midW bs i).getD (i / 8) 0 = leN ((bs.drop (8 * (i / 8))).take (i % 8)) := by
 rw [List.getD_eq_getElem?_getD,midW,List.getElem?_map,List.getElem?_range (by omega)]
 exact wordAt_take bs i
theorem words_mid0 {bs : List UInt8} {i : Nat} (h : i % 8 = 0) (hi : i <= bs.length) : wordsN (bs.take i) ++ [0] = midW bs i := by
 have hl : (bs.take i).length = i := by rw [List.length_take];omega
 rw [wordsN,midW,hl,show (i + 7) / 8 = i / 8 by omega,List.range_succ,List.map_append]
 congr 1
 rw [List.map_cons,List.map_nil,wordAt_past (by rw [hl];omega)]
theorem words_mid {bs : List UInt8} {i : Nat} (h : i % 8 ≠ 0) (hi : i <= bs.length) : wordsN (bs.take i) = midW bs i := by
 have hl : (bs.take i).length = i := by rw [List.length_take];omega
 rw [wordsN,midW,hl,show (i + 7) / 8 = i / 8 + 1 by omega]
theorem drop_take_snoc {bs : List UInt8} {i : Nat} (hi : i < bs.length) : (bs.drop (8 * (i / 8))).take (i % 8 + 1) = (bs.drop (8 * (i / 8))).take (i % 8) ++ [bs[i]] := by
 have h1 : i % 8 < (bs.drop (8 * (i / 8))).length := by rw [List.length_drop];omega
 rw [List.take_succ_eq_append_getElem h1,List.getElem_drop]
 congr 3
 omega
theorem mid_words {bs : List UInt8} {i : Nat} (hi : i < bs.length) : (midW bs i).set (i / 8) (leN ((bs.drop (8 * (i / 8))).take (i % 8)) + bs[i].toNat % 2 ^ 8 * 2 ^ (8 * (i % 8))) = wordsN (bs.take (i + 1)) := by
 have hl : (bs.take (i + 1)).length = i + 1 := by rw [List.length_take];omega
 have hw : wordAt (bs.take (i + 1)) (i / 8) = leN ((bs.drop (8 * (i / 8))).take (i % 8)) + bs[i].toNat % 2 ^ 8 * 2 ^ (8 * (i % 8)) := by
  rw [wordAt,List.drop_take,List.take_take,show min 8 (i + 1 - 8 * (i / 8)) = i % 8 + 1 by omega,drop_take_snoc hi,leN_append]
  have e1 : ((bs.drop (8 * (i / 8))).take (i % 8)).length = i % 8 := by rw [List.length_take,List.length_drop];omega
  have e2 : bs[i].toNat % 2 ^ 8 = bs[i].toNat := Nat.mod_eq_of_lt bs[i].toNat_lt
  rw [e1,e2,Nat.pow_mul,Nat.mul_comm (bs[i].toNat)]
 apply List.ext_getElem?
 intro k
 rw [List.getElem?_set,wordsN,hl,midW_length]
 by_cases hk : i / 8 = k
 ·subst hk
  rw [if_pos rfl,if_pos (by omega),List.getElem?_map,List.getElem?_range (by omega)]
  exact congrArg some hw.symm
 ·rw [if_neg hk,midW,List.getElem?_map,List.getElem?_map]
  by_cases hk2 : k < i / 8
  ·rw [List.getElem?_range (by omega),List.getElem?_range (by omega)]
   show some _ = some _
   rw [wordAt_take_lt hk2,wordAt,wordAt,List.drop_take,List.take_take]
   congr 3
   omega
  ·rw [List.getElem?_eq_none (by simp;omega),List.getElem?_eq_none (by simp;omega)]
   rfl
theorem chunk_lt (bs : List UInt8) (i : Nat) : leN ((bs.drop (8 * (i / 8))).take (i % 8)) < 2 ^ (8 * (i % 8)) := by
 have := leN_le (l := (bs.drop (8 * (i / 8))).take (i % 8)) (k := i % 8) (by rw [List.length_take];omega)
 rwa [show (256 : Nat) = 2 ^ 8 by rfl,<- Nat.pow_mul] at this
theorem withN_byte {x s b k : Nat} (hx : x < 2 ^ s) : withN (x + b % 2 ^ k * 2 ^ s) (s + k) (b.testBit k) = x + b % 2 ^ (k + 1) * 2 ^ s := by
 have key : ∀ j,x + b % 2 ^ j * 2 ^ s = (x + b * 2 ^ s) % 2 ^ (s + j) := fun j => by
  rw [Nat.pow_add,Nat.mod_mul]
  have h1 : (x + b * 2 ^ s) % 2 ^ s = x := by rw [Nat.add_mul_mod_self_right,Nat.mod_eq_of_lt hx]
  have h2 : (x + b * 2 ^ s) / 2 ^ s = b := by rw [Nat.add_mul_div_right _ _ (Nat.two_pow_pos s),Nat.div_eq_of_lt hx,Nat.zero_add]
  rw [h1,h2,Nat.mul_comm]
 have hb : b.testBit k = (x + b * 2 ^ s).testBit (s + k) := by
  have h2 : (x + b * 2 ^ s) / 2 ^ s = b := by rw [Nat.add_mul_div_right _ _ (Nat.two_pow_pos s),Nat.div_eq_of_lt hx,Nat.zero_add]
  have := Nat.testBit_div_two_pow (n := s) (x + b * 2 ^ s) k
  rw [h2] at this;rw [this,Nat.add_comm k s]
 rw [hb,key,key,<- Nat.add_assoc]
 exact withN_grow _ _ _ rfl
end
section
open Go.RowKit
theorem Tryz.infoU64 : (Tryz.prog.info? 24).map (fun i => (i.zero,i.size,i.bytes)) = some (some (.int .u64 0),1,8) := by kernel_rfl
theorem Tryz.underlyingU64s : Tryz.prog.underlying 23 = some (.slice 24) := by kernel_rfl
theorem map_set_encW (l : List Nat) (k a : Nat) : (l.set k a).map encW = (l.map encW).set k (encW a) := List.map_set
theorem owns_below {w w' : World} {base : Nat} {e : TypeId} {size : Nat} {v : Value} {n : Nat} {xs : List Value} (h : w.ownsRow base e size v n xs) (hb : Below w.heap.size w w') : w'.ownsRow base e size v n xs := by
 refine ⟨h.1,?_⟩
 rcases h.2 with h0 | ⟨g,cap,cur,hv,hbase,hg,rest⟩
 ·exact .inl h0
 ·exact .inr ⟨g,cap,cur,hv,hbase,(hb.block g (Array.getElem?_eq_some_iff.1 hg).1).trans hg,rest⟩
theorem row_of_own {w : World} {base : Nat} {e : TypeId} {A : Option Addr} {n c : Nat} {xs : List Value} (h : w.ownsRow base e 1 (.slice A n c) n xs) : RowAt w A xs := fun hn => by
 have hx := h.1
 obtain ⟨g,cap,hv,_,hlt⟩ := h.form (by omega)
 injection hv with hA _ hc
 subst hA;subst hc
 refine ⟨g,0,rfl,hlt,fun k u hu => ?_⟩
 have := (List.getElem?_eq_some_iff.1 hu).1
 rw [Nat.zero_add,h.cellAt k (by omega)];exact hu
theorem set_self {l : List Nat} {i x : Nat} (h : l.getD i 0 = x) (hi : i < l.length) : l.set i x = l := by
 apply List.ext_getElem?
 intro k
 rw [List.getElem?_set]
 by_cases hk : i = k
 ·subst hk
  rw [if_pos rfl,if_pos hi,<- h,List.getD_eq_getElem?_getD,List.getElem?_eq_getElem hi];rfl
 ·rw [if_neg hk]
theorem owns_set {w : World} {base : Nat} {e : TypeId} {g n cap : Nat} {l : List Nat} (h : w.ownsRow base e 1 (.slice (some ⟨g,0,none⟩) n cap) n (l.map encW)) (j a : Nat) :
  (w.setCell ⟨g,j,none⟩ (.int .u64 a)).ownsRow base e 1 (.slice (some ⟨g,0,none⟩) n cap) n ((l.set j a).map encW) := by
 have := h.stored j (.int .u64 a)
 rw [map_set_encW];exact this.1
set_option maxRecDepth 100000 in
set_option maxHeartbeats 2000000 in
theorem refwords_any (bs : List UInt8) (A : Option Addr) (n c : Nat) (w : World) (hn : bs.length = n) (hm : n <= 100000) (h : RowAt w A (bs.map encB)) :
  Calls Tryz.prog 227 #[.slice A n c] w fun e w' => ∃ v,e = .returned v ∧ w'.ownsRow w.heap.size 24 1 v ((n + 7) / 8) ((wordsN bs).map encW) ∧ Below w.heap.size w w' := by
 obtain ⟨i0,hi,hz0,hz1,hz2⟩ := info_parts Tryz.infoU64
 have HN := Lib.hid hn
 have HR := Lib.hid h
 clear h hn
 go_enter Tryz.func227,Tryz.ntmps227
 go_wp2_with fail
 go_loopw [3,4] (fun v i wr => ∃ k : Nat,k <= n ∧ i = .int .i64 k ∧ wr.ownsRow w.heap.size 24 1 v ((k + 7) / 8) ((wordsN (bs.take k)).map encW) ∧ Below w.heap.size w wr) (fun _ i _ => n - (intOf i).toNat)
 case atStart => exact ⟨0,Nat.zero_le _,rfl,by simpa [wordsN] using World.ownsRow_nil w w.heap.size 24 1,Below.refl _ _⟩
 case round =>
  obtain ⟨k,hk,rfl,hown,hb⟩ := hrel
  by_cases hlt : k < n
  ·have hkl : k < bs.length := by rw [HN.out];exact hlt
   obtain ⟨b,off,rfl,hbw,hcb⟩ := HR.out.get (k := k) (u := encB bs[k]) (by rw [List.getElem?_map,List.getElem?_eq_getElem hkl];rfl)
   have HM0 := Lib.hid (fun hk8 => words_mid0 (bs := bs) (i := k) hk8 (by omega))
   have HM1 := Lib.hid (fun hk8 => words_mid (bs := bs) (i := k) hk8 (by omega))
   have HMS := Lib.hid (mid_words hkl)
   have hx2 := chunk_lt bs k
   have HML := Lib.hid (midW_last bs k)
   have HMN := Lib.hid (midW_length bs k)
   have hw64 : leN ((bs.drop (8 * (k / 8))).take (k % 8)) < 18446744073709551616 := Nat.lt_of_lt_of_le hx2 (Nat.pow_le_pow_right (n := 2) (j := 64) (by decide) (by omega))
   generalize leN ((bs.drop (8 * (k / 8))).take (k % 8)) = x at *
   unfold encB at hcb
   have hb256 : bs[k].toNat < 256 := bs[k].toNat_lt
   generalize bs[k].toNat = y at *
   have HX2 := Lib.hid hx2
   clear hx2
   have hkc : (0 : Int) <= (k : Int) := by omega
   have hkn : (k : Int) < (n : Int) := by omega
   obtain ⟨q,hq⟩ : ∃ q : Nat,k / 8 = q := ⟨_,rfl⟩
   obtain ⟨r,hr⟩ : ∃ r : Nat,k % 8 = r := ⟨_,rfl⟩
   obtain ⟨s,hs⟩ : ∃ s : Nat,8 * r = s := ⟨_,rfl⟩
   obtain ⟨m,hm1⟩ : ∃ m : Nat,q + 1 = m := ⟨_,rfl⟩
   have HG : Hid (∀ (v : Value) (w1 : World),w1.ownsRow w.heap.size 24 1 v m ((midW bs k).map encW) -> ∃ g cap,v = .slice (some ⟨g,0,none⟩) m cap) := fun v w1 ho => by
    obtain ⟨g,cap,e,_⟩ := ho.form (by omega)
    exact ⟨g,cap,e⟩
   have hsplit : (∃ _h8 : ((r : Int) == 0) = true,(k + 7) / 8 = q ∧ Hid (wordsN (bs.take k) ++ [0] = midW bs k)) ∨ (∃ _h8 : ((r : Int) == 0) = false,(k + 7) / 8 = m ∧ Hid (wordsN (bs.take k) = midW bs k)) := by
    by_cases hk8 : k % 8 = 0
    ·exact .inl ⟨by rw [beq_iff_eq];omega,by omega,HM0.out hk8⟩
    ·exact .inr ⟨by rw [beq_eq_false_iff_ne];omega,by omega,HM1.out hk8⟩
   have hk9 : (k + 1 + 7) / 8 = m := by omega
   have f1 : IntKind.i64.wrap ((k : Int) / 8) = (q : Int) := by rw [IntWalk.i64_in _ (by omega)];omega
   have f2 : (0 : Int) <= (q : Int) := by omega
   have f5 : (k : Int).tmod 8 = (r : Int) := by rw [Int.tmod_eq_emod_of_nonneg (by omega)];omega
   have f6 : IntKind.i64.wrap (8 * (r : Int)) = (s : Int) := by rw [IntWalk.i64_in _ (by omega)];omega
   have f8 : IntKind.u64.wrap (y : Int) = (y : Int) := IntWalk.u64_in _ (by omega)
   have f4 : (q : Int) < (m : Int) := by omega
   have hqm : q < m := by omega
   have hs56 : s <= 56 := by omega
   have hmb : m <= 20000 := by omega
   rw [hr,hs,hq] at HMS
   rw [hr,hs] at HX2
   rw [hq] at HMN HML
   rw [hm1] at HMN
   have HM9 := Lib.hid hk9
   have HMQ := Lib.hid hm1
   clear HM0 HM1 hs hr hq hk9 hm1
   have hsz := hb.size
   rcases hsplit with ⟨h8,hn8,HE⟩ | ⟨h8,hn8,HE⟩
   ·rw [hn8] at hown
    have HLT := Lib.hid hown.lt
    have HOWN := Lib.hid hown
    have HB := Lib.hid hb
    clear hn8 hown hb
    go_wp2_with (at_builtin;refine wpList_append_own _ rfl _ _ 23 rfl w.heap.size 24 i0 (.int .u64 0) 1 8 Tryz.underlyingU64s hi hz0 hz1 hz2 rfl (by decide) _ _ _ rfl (HOWN.out.alloc _) ⟨wr.heap.size,0,none⟩ 1 1 [.int .u64 0] rfl rfl ?c1 ?c2 ?c3 ?c4 ?c5 ?_)
    case c1 =>
     intro j u hj
     match j,hj with
     | 0,hj => simp at hj;subst hj;simp [Addr.add]
    case c2 => intro u hu;simp at hu;subst hu;rfl
    case c3 => unfold maxLen;omega
    case c4 => omega
    case c5 => simp;omega
    intro v' w1 hown' hgrow _
    have hb1 : Below w.heap.size w w1 := (HB.out.alloc hsz _).grown hgrow (by simp;omega) (fun j e => (HLT.out j e).1)
    have e1 : (wordsN (bs.take k)).map encW ++ [Value.int .u64 0] = (midW bs k).map encW := by rw [<- HE.out,List.map_append];rfl
    rw [e1,HMQ.out] at hown'
    clear hgrow e1 HOWN HLT HB HE
    obtain ⟨g,cap,rfl⟩ := HG.out _ _ hown'
    have hown := hown'
    have hb := hb1
    clear hown' hb1
    go_wp2_with fail
    go_loopw [5] (fun kk wr2 => ∃ j : Nat,j <= 8 ∧ kk = .int .i64 j ∧ wr2.ownsRow w.heap.size 24 1 (.slice (some ⟨g,0,none⟩) m cap) m (((midW bs k).set q (x + y % 2 ^ j * 2 ^ s)).map encW) ∧ Below w.heap.size w wr2) (fun kk _ => 8 - (intOf kk).toNat)
    case atStart => exact ⟨0,Nat.zero_le _,rfl,by rw [Nat.pow_zero,Nat.mod_one,Nat.zero_mul,show x + 0 = x by rfl,set_self HML.out (by rw [HMN.out];omega)];exact hown,hb⟩
    case round =>
     obtain ⟨j,hj,rfl,hown2,hb2⟩ := hrel
     by_cases hj8 : j < 8
     ·have hNX : withN (x + y % 2 ^ j * 2 ^ s) (s + j) (y.testBit j) = x + y % 2 ^ (j + 1) * 2 ^ s := withN_byte HX2.out
      have hlt64 : x + y % 2 ^ j * 2 ^ s < 18446744073709551616 := by
       refine Nat.lt_of_lt_of_le (m := 2 ^ (s + 8)) ?_ (Nat.pow_le_pow_right (n := 2) (j := 64) (by decide) (by omega))
       have h1 := HX2.out
       have h2 : y % 2 ^ j <= 255 := Nat.le_trans (Nat.mod_le _ _) (by omega)
       have h3 := Nat.mul_le_mul_right (2 ^ s) h2
       rw [Nat.pow_add,show (2 : Nat) ^ 8 = 256 by rfl]
       omega
      have hcell := hown2.cellAt q (by omega)
      rw [List.getElem?_map,List.getElem?_set_self (by rw [HMN.out];omega)] at hcell
      simp only [Option.map_some,encW] at hcell
      have hfz := hown2.frozenAt q
      have hcb2 := (hb2.cell (p := ⟨b,off + k,none⟩) hbw).trans hcb
      have HOS := Lib.hid (fun a => owns_set hown2 q a)
      have hgw : w.heap.size <= g := (hown2.lt g rfl).1
      have HB2 := Lib.hid hb2
      simp only [List.set_set] at HOS
      obtain ⟨u,hu⟩ : ∃ u : Nat,s + j = u := ⟨_,rfl⟩
      rw [hu] at hNX
      have HNX := Lib.hid hNX
      have f7 : IntKind.i64.wrap ((s : Int) + (j : Int)) = (u : Int) := by rw [IntWalk.i64_in _ (by omega)];omega
      have hu64 : u < 64 := by omega
      have HO3 := Lib.hid (HOS.out (x + y % 2 ^ (j + 1) * 2 ^ s))
      have HJ1 : Hid (∀ z2,z2 = x + y % 2 ^ (j + 1) * 2 ^ s -> z2 = x + y % 2 ^ (j + 1) * 2 ^ s) := fun _ h => h
      generalize x + y % 2 ^ j * 2 ^ s = z at *
      clear hown2 hb2 hu hNX HOS HJ1
      go_wp2_with fail
      go_still_tail 21,(by kernel_rfl)
      still_call ((bit_any y j _ (by omega) (by omega)).mono fun _ _ ⟨he,hw⟩ => ⟨he,hw.symm⟩)
      repeat still_step
      still_call ((with_any z u _ _ hlt64 hu64).mono fun _ _ ⟨he,hw⟩ => ⟨he,hw.symm⟩)
      repeat still_step
      refine wpStill_nil ?_
      rw [HNX.out]
      have HO4 : Hid (∀ z2,x + y % 2 ^ (j + 1) * 2 ^ s = z2 -> (wr.setCell ⟨g,q,none⟩ (.int .u64 z2)).ownsRow w.heap.size 24 1 (.slice (some ⟨g,0,none⟩) m cap) m (((midW bs k).set q (x + y % 2 ^ (j + 1) * 2 ^ s)).map encW)) := fun z2 h => by subst h;exact HO3.out
      generalize hz2' : x + y % 2 ^ (j + 1) * 2 ^ s = z2
      have HO5 := Lib.hid (HO4.out z2 hz2')
      clear hz2' HO3 HO4 HNX
      change wpList _ _ _ _ _ wr.drew
      go_wp2_with fail
      go_roundw
      case rel => exact ⟨j + 1,by omega,by go_num,HO5.out,HB2.out.drew.setCell (p := ⟨g,q,none⟩) hgw _⟩
      case measure => simp [intOf];omega
     ·have hj8' : j = 8 := by omega
      subst hj8'
      rw [HMS.out] at hown2
      have HO := Lib.hid hown2
      clear hown2
      go_wp2_with fail
      go_roundw
      case rel => exact ⟨k + 1,by omega,by go_num,by rw [HM9.out];exact HO.out,hb2⟩
      case measure => simp [intOf];omega
   ·rw [hn8,HE.out] at hown
    clear hn8 HE
    obtain ⟨g,cap,rfl⟩ := HG.out _ _ hown
    go_wp2_with fail
    go_loopw [5] (fun kk wr2 => ∃ j : Nat,j <= 8 ∧ kk = .int .i64 j ∧ wr2.ownsRow w.heap.size 24 1 (.slice (some ⟨g,0,none⟩) m cap) m (((midW bs k).set q (x + y % 2 ^ j * 2 ^ s)).map encW) ∧ Below w.heap.size w wr2) (fun kk _ => 8 - (intOf kk).toNat)
    case atStart => exact ⟨0,Nat.zero_le _,rfl,by rw [Nat.pow_zero,Nat.mod_one,Nat.zero_mul,show x + 0 = x by rfl,set_self HML.out (by rw [HMN.out];omega)];exact hown,hb⟩
    case round =>
     obtain ⟨j,hj,rfl,hown2,hb2⟩ := hrel
     by_cases hj8 : j < 8
     ·have hNX : withN (x + y % 2 ^ j * 2 ^ s) (s + j) (y.testBit j) = x + y % 2 ^ (j + 1) * 2 ^ s := withN_byte HX2.out
      have hlt64 : x + y % 2 ^ j * 2 ^ s < 18446744073709551616 := by
       refine Nat.lt_of_lt_of_le (m := 2 ^ (s + 8)) ?_ (Nat.pow_le_pow_right (n := 2) (j := 64) (by decide) (by omega))
       have h1 := HX2.out
       have h2 : y % 2 ^ j <= 255 := Nat.le_trans (Nat.mod_le _ _) (by omega)
       have h3 := Nat.mul_le_mul_right (2 ^ s) h2
       rw [Nat.pow_add,show (2 : Nat) ^ 8 = 256 by rfl]
       omega
      have hcell := hown2.cellAt q (by omega)
      rw [List.getElem?_map,List.getElem?_set_self (by rw [HMN.out];omega)] at hcell
      simp only [Option.map_some,encW] at hcell
      have hfz := hown2.frozenAt q
      have hcb2 := (hb2.cell (p := ⟨b,off + k,none⟩) hbw).trans hcb
      have HOS := Lib.hid (fun a => owns_set hown2 q a)
      have hgw : w.heap.size <= g := (hown2.lt g rfl).1
      have HB2 := Lib.hid hb2
      simp only [List.set_set] at HOS
      obtain ⟨u,hu⟩ : ∃ u : Nat,s + j = u := ⟨_,rfl⟩
      rw [hu] at hNX
      have HNX := Lib.hid hNX
      have f7 : IntKind.i64.wrap ((s : Int) + (j : Int)) = (u : Int) := by rw [IntWalk.i64_in _ (by omega)];omega
      have hu64 : u < 64 := by omega
      have HO3 := Lib.hid (HOS.out (x + y % 2 ^ (j + 1) * 2 ^ s))
      have HJ1 : Hid (∀ z2,z2 = x + y % 2 ^ (j + 1) * 2 ^ s -> z2 = x + y % 2 ^ (j + 1) * 2 ^ s) := fun _ h => h
      generalize x + y % 2 ^ j * 2 ^ s = z at *
      clear hown2 hb2 hu hNX HOS HJ1
      go_wp2_with fail
      go_still_tail 21,(by kernel_rfl)
      still_call ((bit_any y j _ (by omega) (by omega)).mono fun _ _ ⟨he,hw⟩ => ⟨he,hw.symm⟩)
      repeat still_step
      still_call ((with_any z u _ _ hlt64 hu64).mono fun _ _ ⟨he,hw⟩ => ⟨he,hw.symm⟩)
      repeat still_step
      refine wpStill_nil ?_
      rw [HNX.out]
      have HO4 : Hid (∀ z2,x + y % 2 ^ (j + 1) * 2 ^ s = z2 -> (wr.setCell ⟨g,q,none⟩ (.int .u64 z2)).ownsRow w.heap.size 24 1 (.slice (some ⟨g,0,none⟩) m cap) m (((midW bs k).set q (x + y % 2 ^ (j + 1) * 2 ^ s)).map encW)) := fun z2 h => by subst h;exact HO3.out
      generalize hz2' : x + y % 2 ^ (j + 1) * 2 ^ s = z2
      have HO5 := Lib.hid (HO4.out z2 hz2')
      clear hz2' HO3 HO4 HNX
      change wpList _ _ _ _ _ wr.drew
      go_wp2_with fail
      go_roundw
      case rel => exact ⟨j + 1,by omega,by go_num,HO5.out,HB2.out.drew.setCell (p := ⟨g,q,none⟩) hgw _⟩
      case measure => simp [intOf];omega
     ·have hj8' : j = 8 := by omega
      subst hj8'
      rw [HMS.out] at hown2
      have HO := Lib.hid hown2
      clear hown2
      go_wp2_with fail
      go_roundw
      case rel => exact ⟨k + 1,by omega,by go_num,by rw [HM9.out];exact HO.out,hb2⟩
      case measure => simp [intOf];omega
  ·have hkn : k = n := by omega
   subst hkn
   rw [List.take_of_length_le (by rw [HN.out];omega)] at hown
   have HO := Lib.hid hown
   clear hown
   go_wp2_with fail
   go_ret
   exact ⟨_,rfl,HO.out,hb⟩
end
end Go.Proofs.YtdpooagnbmpinaaGreatDoor
