import Derived.Test.YtdpooagnbmpinaaGreatDoorProg
import Derived.WalkKit
import Derived.WalkSpells
import Derived.WalkLawsBesides
import Derived.Test.YtdpooagnbmpinaaGreatDoorZV2
import Derived.Lib.ConvBytes
import Derived.Test.YtdpooagnbmpinaaGreatDoorZW1
import Derived.Test.YtdpooagnbmpinaaGreatDoorZK7
namespace Go.Proofs.YtdpooagnbmpinaaGreatDoor
section
open Go.RowKit
def okByte (c : UInt8) : Bool := decide (33 <= c.toNat) && decide (c.toNat <= 126) && !(decide (c.toNat = 47))
def rightB (l : List UInt8) : Bool := decide (1 <= l.length) && decide (l.length <= 40) && !(l == [46]) && !(l == [46,46]) && l.all okByte
theorem okByte_iff (c : UInt8) : okByte c = true ↔ 33 <= c.toNat ∧ c.toNat <= 126 ∧ c.toNat ≠ 47 := by
 simp [okByte,and_assoc]
theorem hid {p : Prop} (h : p) : Hid p := h
theorem ret_bool {a b : Bool} (h : a = b) : Ending.returned (.bool a) = .returned (.bool b) := by rw [h]
theorem okByte_of {c : UInt8} (h1 : 33 <= (c.toNat : Int)) (h2 : (c.toNat : Int) <= 126) (h3 : ((c.toNat : Int) == 47) = false) : okByte c = true := by
 rw [okByte_iff];simp at h3;omega
theorem okByte_no {c : UInt8} (h : (c.toNat : Int) < 33 ∨ 126 < (c.toNat : Int) ∨ ((c.toNat : Int) == 47) = true) : okByte c = false := by
 rw [Bool.eq_false_iff];intro hc;rw [okByte_iff] at hc;simp at h;omega
theorem take_snoc (s : ByteArray) (k : Nat) (h : k < s.size) : s.data.toList.take (k + 1) = s.data.toList.take k ++ [s[k]] := by
 rw [List.take_succ_eq_append_getElem (by simpa using h)];rfl
theorem all_snoc (s : ByteArray) (p : UInt8 -> Bool) (k : Nat) (h : k < s.size) (ha : (s.data.toList.take k).all p = true) (hp : p s[k] = true) : (s.data.toList.take (k + 1)).all p = true := by
 rw [take_snoc s k h,List.all_append,ha];simp [hp]
theorem all_bad (s : ByteArray) (p : UInt8 -> Bool) (k : Nat) (h : k < s.size) (hp : p s[k] = false) : s.data.toList.all p = false := by
 rw [Bool.eq_false_iff];intro ha
 have := List.all_eq_true.1 ha s[k] (by show s.data[k] ∈ s.data.toList;exact Array.mem_toList_iff.2 (Array.getElem_mem h))
 rw [hp] at this;cases this
set_option maxHeartbeats 400000 in
theorem refRight_any (s : ByteArray) (w : World) (hs : s.size <= maxLen) :
  Calls Tryz.prog 68 #[.string s] w fun e w' => e = .returned (.bool (rightB s.data.toList)) ∧ w = w' := by
 unfold maxLen at hs
 have hl : s.data.toList.length = s.size := rfl
 by_cases h1 : 1 <= s.size
 ·by_cases h2 : s.size <= 40
  ·by_cases h3 : s.data.toList = [46]
   ·have HF : Hid (rightB s.data.toList = false) := by simp [Hid,rightB,h3]
    rw [<- ByteArray.toList_eq] at h3
    clear hl
    go_enter Tryz.func68,Tryz.ntmps68
    go_wp2
    go_ret
    exact ⟨ret_bool HF.out.symm,rfl⟩
   ·by_cases h4 : s.data.toList = [46,46]
    ·have HF : Hid (rightB s.data.toList = false) := by simp [Hid,rightB,h4]
     rw [<- ByteArray.toList_eq] at h3 h4
     clear hl
     have h3' : (s.toList == [46]) = false := by simpa using h3
     have h4' : (s.toList == [46,46]) = true := by simpa using h4
     clear h3 h4
     go_enter Tryz.func68,Tryz.ntmps68
     go_wp2
     go_ret
     exact ⟨ret_bool HF.out.symm,rfl⟩
    ·have HF : Hid (rightB s.data.toList = s.data.toList.all okByte) := by simp [Hid,rightB,h3,h4,h1,h2]
     rw [<- ByteArray.toList_eq] at h3 h4
     clear hl
     have h3' : (s.toList == [46]) = false := by simpa using h3
     have h4' : (s.toList == [46,46]) = false := by simpa using h4
     clear h3 h4
     go_enter Tryz.func68,Tryz.ntmps68
     go_wp2
     go_loop [3] (fun i => ∃ k : Nat,k <= s.size ∧ i = .int .i64 k ∧ ((s.data.toList.take k).all okByte = true)) (fun i => s.size - (intOf i).toNat)
     case atStart => exact ⟨0,Nat.zero_le _,rfl,rfl⟩
     case round =>
      obtain ⟨k,hk,rfl,hall⟩ := hrel
      have HA := hid hall
      clear hall
      by_cases hlt : k < s.size
      ·go_wp2
       case roundEnd => exact ⟨⟨k + 1,by omega,by go_num,all_snoc s okByte k hlt HA.out (okByte_of (by omega) (by omega) (by simp_all))⟩,by simp [intOf];omega⟩
       all_goals
        go_ret
        exact ⟨ret_bool (by rw [HF.out];exact (all_bad s okByte k hlt (okByte_no (by first | (left;omega) | (right;left;omega) | (right;right;simp_all <;> omega)))).symm),rfl⟩
      ·go_wp2
       go_ret
       exact ⟨ret_bool (by rw [HF.out,<- HA.out,List.take_of_length_le (by show s.size <= k;omega)]),rfl⟩
  ·have HF : Hid (rightB s.data.toList = false) := by simp [Hid,rightB,hl];omega
   clear hl
   go_enter Tryz.func68,Tryz.ntmps68
   go_wp2
   go_ret
   exact ⟨ret_bool HF.out.symm,rfl⟩
 ·have HF : Hid (rightB s.data.toList = false) := by simp [Hid,rightB,hl];omega
  clear hl
  go_enter Tryz.func68,Tryz.ntmps68
  go_wp2
  go_ret
  exact ⟨ret_bool HF.out.symm,rfl⟩
end
section
open Go.RowKit
def words5 (bs : List UInt8) : List Nat := (List.range 5).map (wordAt bs)
def encF (f : Nat -> Nat) : Value := .agg #[.int .u64 (f 0 : Nat),.int .u64 (f 1 : Nat),.int .u64 (f 2 : Nat),.int .u64 (f 3 : Nat),.int .u64 (f 4 : Nat)]
theorem encF_congr {f g : Nat -> Nat} (h : ∀ k,k < 5 -> f k = g k) : encF f = encF g := by
 unfold encF
 rw [h 0 (by omega),h 1 (by omega),h 2 (by omega),h 3 (by omega),h 4 (by omega)]
def Arr5 (w : World) (B : Nat) (f : Nat -> Nat) : Prop := (∀ k,k < 5 -> w.cell? ⟨B,k,none⟩ = some (.int .u64 (f k : Nat))) ∧ ∀ k,w.frozen? ⟨B,k,none⟩ = false
def firstW (a : Nat -> Nat) (i k : Nat) : Nat := if k < i then a k else 0
theorem Arr5.step {w : World} {B : Nat} {a : Nat -> Nat} {i : Nat} (h : Arr5 w B (firstW a i)) (hi : i < 5) : Arr5 (w.setCell ⟨B,i,none⟩ (.int .u64 (a i : Nat))) B (firstW a (i + 1)) := by
 refine ⟨fun k hk => ?_,fun k => by simpa using h.2 k⟩
 by_cases e : k = i
 ·subst e
  rw [World.cell?_setCell_same' _ _ _ (by rw [h.1 k hk];rfl),firstW,if_pos (by omega)]
 ·rw [World.cell?_setCell_other _ _ _ _ (by intro e';injection e' with _ e';omega),h.1 k hk,firstW,firstW]
  congr 3
  by_cases h1 : k < i
  ·rw [if_pos h1,if_pos (by omega)]
  ·rw [if_neg h1,if_neg (by omega)]
theorem Arr5.put {w : World} {B : Nat} {g : Nat -> Nat} (h : Arr5 w B g) (i x : Nat) (hi : i < 5) : Arr5 (w.setCell ⟨B,i,none⟩ (.int .u64 (x : Nat))) B (fun k => if k = i then x else g k) := by
 refine ⟨fun k hk => ?_,fun k => by simpa using h.2 k⟩
 by_cases e : k = i
 ·subst e
  rw [World.cell?_setCell_same' _ _ _ (by rw [h.1 k hk];rfl)]
  simp
 ·rw [World.cell?_setCell_other _ _ _ _ (by intro e';injection e' with _ e';omega),h.1 k hk]
  simp [e]
theorem Arr5.all {w : World} {B : Nat} {g : Nat -> Nat} (h : Arr5 w B g) (f : Nat -> Nat) :
  Arr5 (((((w.setCell ⟨B,0,none⟩ (.int .u64 (f 0 : Nat))).setCell ⟨B,1,none⟩ (.int .u64 (f 1 : Nat))).setCell ⟨B,2,none⟩ (.int .u64 (f 2 : Nat))).setCell ⟨B,3,none⟩ (.int .u64 (f 3 : Nat))).setCell ⟨B,4,none⟩ (.int .u64 (f 4 : Nat))) B f := by
 have h5 := ((((h.put 0 (f 0) (by omega)).put 1 (f 1) (by omega)).put 2 (f 2) (by omega)).put 3 (f 3) (by omega)).put 4 (f 4) (by omega)
 refine ⟨fun k hk => ?_,h5.2⟩
 rw [h5.1 k hk]
 match k,hk with
 | 0,_ => rfl
 | 1,_ => rfl
 | 2,_ => rfl
 | 3,_ => rfl
 | 4,_ => rfl
theorem below_five {w0 w : World} {n B : Nat} (h : Below n w0 w) (hB : n <= B) (f : Nat -> Nat) :
  Below n w0 (((((w.setCell ⟨B,0,none⟩ (.int .u64 (f 0 : Nat))).setCell ⟨B,1,none⟩ (.int .u64 (f 1 : Nat))).setCell ⟨B,2,none⟩ (.int .u64 (f 2 : Nat))).setCell ⟨B,3,none⟩ (.int .u64 (f 3 : Nat))).setCell ⟨B,4,none⟩ (.int .u64 (f 4 : Nat))) :=
 ((((h.setCell (p := ⟨B,0,none⟩) hB _).setCell (p := ⟨B,1,none⟩) hB _).setCell (p := ⟨B,2,none⟩) hB _).setCell (p := ⟨B,3,none⟩) hB _).setCell (p := ⟨B,4,none⟩) hB _
theorem Arr5.five {w : World} {B : Nat} {f : Nat -> Nat} (h : Arr5 w B f) : (w.cell? ⟨B,0,none⟩ = some (.int .u64 (f 0 : Nat)) ∧ w.cell? ⟨B,1,none⟩ = some (.int .u64 (f 1 : Nat)) ∧ w.cell? ⟨B,2,none⟩ = some (.int .u64 (f 2 : Nat)) ∧ w.cell? ⟨B,3,none⟩ = some (.int .u64 (f 3 : Nat)) ∧ w.cell? ⟨B,4,none⟩ = some (.int .u64 (f 4 : Nat))) :=
 ⟨h.1 0 (by omega),h.1 1 (by omega),h.1 2 (by omega),h.1 3 (by omega),h.1 4 (by omega)⟩
theorem Arr5.below {w w' : World} {B : Nat} {f : Nat -> Nat} {n : Nat} (h : Arr5 w B f) (hb : Below n w w') (hB : B < n) : Arr5 w' B f :=
 ⟨fun k hk => (hb.cell (p := ⟨B,k,none⟩) hB).trans (h.1 k hk),fun k => (hb.frozen (p := ⟨B,k,none⟩) hB).trans (h.2 k)⟩
theorem below_bytes (w : World) (e : TypeId) (s : ByteArray) : Below w.heap.size w (Lib.bytesWorld w e s) :=
 ⟨rfl,rfl,rfl,by rw [Lib.bytesWorld_size];omega,fun k hk => Lib.bytesWorld_at_old w e s k hk⟩
theorem row_bytes (w : World) (e : TypeId) (s : ByteArray) : RowAt (Lib.bytesWorld w e s) (some ⟨w.heap.size,0,none⟩) ((bytesOf s).map encB) := fun _ =>
 ⟨_,_,rfl,by rw [Lib.bytesWorld_size];omega,fun k u hu => by
  have hk : k < s.size := by
   have := (List.getElem?_eq_some_iff.1 hu).1
   rw [List.length_map,size_bytesOf] at this;exact this
  rw [Nat.zero_add,Lib.bytesWorld_cell w e s k hk]
  rw [List.getElem?_map,List.getElem?_eq_getElem (by rw [size_bytesOf];exact hk)] at hu
  rw [<- Option.some.inj hu]
  have : s.data.toList.getD k 0 = (bytesOf s)[k]'(by rw [size_bytesOf];exact hk) := by
   rw [List.getD_eq_getElem?_getD]
   show ((bytesOf s)[k]?).getD 0 = _
   rw [List.getElem?_eq_getElem (by rw [size_bytesOf];exact hk)];rfl
  rw [this];rfl⟩
theorem Tryz.underlyingBytes : Tryz.prog.underlying 26 = some (.slice 5) := by kernel_rfl
theorem Tryz.underlyingByte : Tryz.prog.underlying 5 = some (.int .u8) := by kernel_rfl
theorem Tryz.underlyingStr : Tryz.prog.underlying 9 = some .string := by kernel_rfl
set_option maxRecDepth 100000 in
set_option maxHeartbeats 2000000 in
theorem refWords6_any (s : ByteArray) (w : World) (h1 : 1 <= s.size) (h40 : s.size <= 40) :
  Calls Tryz.prog 183 #[.string s] w fun e w' => e = .returned (encF (wordAt (bytesOf s))) ∧ Below w.heap.size w w' := by
 have hconv := fun W => Lib.run_convert_string_bytes (P := Tryz.prog) W 9 26 5 s Tryz.underlyingStr Tryz.underlyingBytes Tryz.underlyingByte
 obtain ⟨m,HM,hm5⟩ : ∃ m : Nat,Hid ((s.size + 7) / 8 = m) ∧ m <= 5 := ⟨_,rfl,by omega⟩
 go_enter Tryz.func183,Tryz.ntmps183
 go_wp2_with fail
 have hb0 : Below w.heap.size w ((w.alloc (.cells #[.int .u64 0,.int .u64 0,.int .u64 0,.int .u64 0,.int .u64 0] 190)).alloc (.cells #[.int .u64 0,.int .u64 0,.int .u64 0,.int .u64 0,.int .u64 0] 190)) := ((Below.refl _ _).alloc (Nat.le_refl _) _).alloc (by simp) _
 have ha0 : Arr5 ((w.alloc (.cells #[.int .u64 0,.int .u64 0,.int .u64 0,.int .u64 0,.int .u64 0] 190)).alloc (.cells #[.int .u64 0,.int .u64 0,.int .u64 0,.int .u64 0,.int .u64 0] 190)) (w.heap.size + 1) (firstW (wordAt (bytesOf s)) 0) := by
  refine ⟨fun k hk => ?_,fun k => ?_⟩
  ·match k,hk with
   | 0,_ => simp [firstW]
   | 1,_ => simp [firstW]
   | 2,_ => simp [firstW]
   | 3,_ => simp [firstW]
   | 4,_ => simp [firstW]
  ·simp
 have hr0 : Arr5 ((w.alloc (.cells #[.int .u64 0,.int .u64 0,.int .u64 0,.int .u64 0,.int .u64 0] 190)).alloc (.cells #[.int .u64 0,.int .u64 0,.int .u64 0,.int .u64 0,.int .u64 0] 190)) w.heap.size (fun _ => 0) := by
  refine ⟨fun k hk => ?_,fun k => ?_⟩
  ·match k,hk with
   | 0,_ => simp
   | 1,_ => simp
   | 2,_ => simp
   | 3,_ => simp
   | 4,_ => simp
  ·simp
 have hsz0 : ((w.alloc (.cells #[.int .u64 0,.int .u64 0,.int .u64 0,.int .u64 0,.int .u64 0] 190)).alloc (.cells #[.int .u64 0,.int .u64 0,.int .u64 0,.int .u64 0,.int .u64 0] 190)).heap.size = w.heap.size + 1 + 1 := by simp
 generalize hW0 : ((w.alloc (.cells #[.int .u64 0,.int .u64 0,.int .u64 0,.int .u64 0,.int .u64 0] 190)).alloc (.cells #[.int .u64 0,.int .u64 0,.int .u64 0,.int .u64 0,.int .u64 0] 190)) = W0 at *
 have hb1 := below_bytes W0 5 s
 have hrow := row_bytes W0 5 s
 have hs1 : (Lib.bytesWorld W0 5 s).heap.size = w.heap.size + 3 := by rw [Lib.bytesWorld_size,hsz0]
 rw [hsz0] at hrow
 have ha1 := (ha0.below hb1 (by omega))
 have hr1 := (hr0.below hb1 (by omega))
 have hb01 := below_trans hb0 (hb1.mono (by have := hb0.size;omega))
 generalize Lib.bytesWorld W0 5 s = W1 at *
 generalize grownCap W0 s.size 0 5 = cap0 at *
 clear hW0 hb1 ha0 hr0 hb0 hconv
 refine (refwords_any (bytesOf s) _ s.size cap0 _ rfl (by omega) hrow).mono ?_
 rintro e w1 ⟨v,rfl,hown,hb2⟩
 rw [HM.out] at hown
 have ha2 := ha1.below hb2 (by omega)
 have hr2 := hr1.below hb2 (by omega)
 have hB2 := below_trans hb01 (hb2.mono (by omega))
 have hsz2 := hb2.size
 have HRO := Lib.hid hown
 have HLN : Hid ((wordsN (bytesOf s)).length = m) := by rw [Hid,wordsN_length,size_bytesOf];exact HM.out
 have HPAST : Hid (∀ k,m <= k -> wordAt (bytesOf s) k = 0) := fun k hk => wordAt_past (by rw [size_bytesOf];have := HM.out;omega)
 have HGET : Hid (∀ k,k < m -> ((wordsN (bytesOf s)).map encW)[k]? = some (.int .u64 (wordAt (bytesOf s) k : Nat))) := fun k hk => by
  rw [List.getElem?_map,wordsN,List.getElem?_map,List.getElem?_range (by rw [size_bytesOf];have := HM.out;omega)];rfl
 generalize hA : wordAt (bytesOf s) = a at *
 have HA := Lib.hid hA
 clear hA
 clear hrow hb2 hb01 ha1 hr1 hown
 have hcap : m = 0 ∨ ∃ g cap,v = .slice (some ⟨g,0,none⟩) m cap := by
  rcases Nat.eq_zero_or_pos m with h | h
  ·exact .inl h
  ·obtain ⟨g,cap,e,_⟩ := HRO.out.form h
   exact .inr ⟨g,cap,e⟩
 rcases hcap with h0 | ⟨g,cap,rfl⟩
 ·exfalso;have := HM.out;omega
 ·have hg := (HRO.out.lt g rfl)
  rw [hs1] at hg
  have HRE := Lib.hid ha2
  have HRR := Lib.hid hr2
  have HB2 := Lib.hid hB2
  clear ha2 hr2 hB2
  go_wp2_with fail
  go_loopw [5] (fun i wr => ∃ j : Nat,j <= m ∧ i = .int .i64 j ∧ Arr5 wr (w.heap.size + 1) (firstW a j) ∧ Below w.heap.size w wr ∧ ∀ b,b ≠ w.heap.size + 1 -> wr.heap[b]? = w1.heap[b]?) (fun i _ => m - (intOf i).toNat)
  case atStart => exact ⟨0,Nat.zero_le _,rfl,HRE.out,HB2.out,fun _ _ => rfl⟩
  case round =>
   obtain ⟨j,hj,rfl,ha,hb,hk⟩ := hrel
   by_cases hlt : j < m
   ·have hcell : wr.cell? ⟨g,j,none⟩ = some (.int .u64 (a j : Nat)) := by
     rw [World.cell?_of_block (hk g (by omega)),HRO.out.cellAt j (by omega),HGET.out j hlt]
    have h5 := ha.1 j (by omega)
    have hf5 := ha.2 j
    have HST := Lib.hid (ha.step (by omega))
    have HK : Hid (∀ b,b ≠ w.heap.size + 1 -> (wr.setCell ⟨w.heap.size + 1,j,none⟩ (.int .u64 (a j : Nat))).heap[b]? = w1.heap[b]?) := fun b hne =>
     (Below.heap_setCell _ _ _ b hne).trans (hk b hne)
    clear ha hk
    have hj0 : (0 : Int) <= (j : Int) := by omega
    have hj5 : (j : Int) < 5 := by omega
    have hjm : (j : Int) < (m : Int) := by omega
    generalize a j = x at *
    go_wp2_with fail
    go_roundw
    case rel => exact ⟨j + 1,by omega,by go_num,HST.out,hb.setCell (p := ⟨w.heap.size + 1,j,none⟩) (by show w.heap.size <= w.heap.size + 1;omega) _,HK.out⟩
    case measure => simp [intOf];omega
   ·have hjm : j = m := by omega
    subst hjm
    obtain ⟨c0,c1,c2,c3,c4⟩ := ha.five
    have hr3 : Arr5 wr w.heap.size (fun _ => 0) := ⟨fun k hk5 => (World.cell?_of_block (hk w.heap.size (by omega))).trans (HRR.out.1 k hk5),fun k => (World.frozen?_of_block (hk w.heap.size (by omega))).trans (HRR.out.2 k)⟩
    obtain ⟨d0,d1,d2,d3,d4⟩ := hr3.five
    have e0 := hr3.2 0
    have e1 := hr3.2 1
    have e2 := hr3.2 2
    have e3 := hr3.2 3
    have e4 := hr3.2 4
    have HE : Hid (encF (firstW a j) = encF a) := encF_congr fun k _ => by
     rw [firstW]
     split
     ·rfl
     ·rw [HPAST.out k (by omega)]
    have HRW5 := Lib.hid hr3
    clear ha hr3 hk
    generalize firstW a j = f at *
    go_wp2_with fail
    have HF := Lib.hid (HRW5.out.all f)
    obtain ⟨g0,g1,g2,g3,g4⟩ := HF.out.five
    have HBF := Lib.hid (below_five hb (Nat.le_refl _) f)
    generalize (((((wr.setCell ⟨w.heap.size,0,none⟩ (.int .u64 (f 0 : Nat))).setCell ⟨w.heap.size,1,none⟩ (.int .u64 (f 1 : Nat))).setCell ⟨w.heap.size,2,none⟩ (.int .u64 (f 2 : Nat))).setCell ⟨w.heap.size,3,none⟩ (.int .u64 (f 3 : Nat))).setCell ⟨w.heap.size,4,none⟩ (.int .u64 (f 4 : Nat))) = W9 at *
    refine bodyPost_ret (v := encF f) (by simp [results,Tryz.results183,go_sem,g0,g1,g2,g3,g4,encF]) rfl ⟨by rw [HA.out,<- HE.out],HBF.out⟩
end
section
open Go.RowKit Go.Shelf
attribute [local go_sem] Oper.semAt_some
theorem range_prefix' {k n : Nat} (h : k < n) : List.range k ++ [k] <+: List.range n := by
 rw [<- List.range_succ]
 have : List.range (k + 1) = (List.range n).take (k + 1) := by
  rw [List.take_range,Nat.min_eq_left (by omega)]
 rw [this];exact List.take_prefix _ _
def encC (b off n : Nat) (k : Nat) : Array Value := #[.slice (some ⟨b,off + 8 * k,none⟩) (min 8 (n - 8 * k)) (min 8 (n - 8 * k))]
def ChunkQ (Bs Bn b off n c : Nat) (W : World) : Prop := W.cell? ⟨Bs,0,none⟩ = some (.slice (some ⟨b,off,none⟩) n c) ∧ W.cell? ⟨Bn,0,none⟩ = some (.int .i64 8)
set_option maxRecDepth 100000 in
set_option maxHeartbeats 2000000 in
theorem chunk1_in (l Bs Bn b off n c : Nat) (hn : n <= 4096) (hnc : n <= c) (hc : c <= maxLen) (J Jx : List Nat -> World -> Prop) (W : World)
  (hQ : ∀ pre W1,J pre W1 -> ChunkQ Bs Bn b off n c W1)
  (hY : ∀ pre x W1,W.heap.size <= W1.heap.size -> J pre W1 -> pre ++ [x] <+: List.range ((n + 7) / 8) -> Yields Tryz.prog l (encC b off n x) W1 fun e W' =>
   (e = .returned (.bool true) ∧ J (pre ++ [x]) W' ∧ Keeps W.heap.size 0 W.heap.size W1 W') ∨ (e = .returned (.bool false) ∧ Jx (pre ++ [x]) W' ∧ Keeps W.heap.size 0 W.heap.size W1 W'))
  (hJd : ∀ pre W1,J pre W1 -> J pre W1.drew) (h0 : J [] W) :
  Calls Tryz.prog 264 #[.func (.yield l) #[] #[],.pointer (some ⟨Bs,0,none⟩),.pointer (some ⟨Bn,0,none⟩)] W fun e W' => (∃ v,e = .returned v) ∧
   ((∃ xs,xs = List.range ((n + 7) / 8) ∧ J xs W') ∨ (∃ pre,pre <+: List.range ((n + 7) / 8) ∧ Jx pre W')) := by
 have HY := Lib.hid hY
 have HQ := Lib.hid hQ
 have HJ := Lib.hid h0
 have HJD := Lib.hid hJd
 clear hY h0 hQ hJd
 unfold maxLen at hc
 refine (callsIn_wide (n := 10)).1 ?_
 refine callsIn_of_wp Tryz.func264 rfl trivial ?_ rfl
 simp only [Tryz.ntmps264,List.size_toArray,List.length_cons,List.length_nil,Nat.reduceAdd,Nat.reduceSub,Array.replicate_succ,Array.replicate_zero,List.push_toArray,List.append_toArray,List.nil_append,List.cons_append]
 gi_wp2
 gi_loopw [4] (fun i wr => ∃ k p : Nat,i = .int .i64 p ∧ p = 8 * k ∧ k <= (n + 7) / 8 ∧ W.heap.size <= wr.heap.size ∧ J (List.range k) wr) (fun i _ => n + 8 - (intOf i).toNat)
 case atStart => exact ⟨0,0,rfl,rfl,Nat.zero_le _,Nat.le_refl _,HJ.out⟩
 case round =>
  obtain ⟨k,p,rfl,hp,hk,hsz,hj⟩ := hrel
  have HP := Lib.hid hp
  have hp' : p < n + 8 := by omega
  obtain ⟨hcs,hcn⟩ := HQ.out _ _ hj
  have HJ1 := Lib.hid hj
  by_cases hlt : p < n
  ·have hkl : k < (n + 7) / 8 := by omega
   obtain ⟨m,HM,hm1,hm2,hm0⟩ : ∃ m : Nat,Hid (min 8 (n - 8 * k) = m) ∧ m <= 8 ∧ p + m <= n ∧ 0 < m := ⟨_,rfl,by omega,by omega,by omega⟩
   have HM' : Hid (min (8 : Int) ((n - p : Nat) : Int) = (m : Int)) := by
    have := HM.out
    rw [Hid];omega
   clear hp hj hk
   gi_wp2
   rename_i KK hKK
   have HKK := Lib.hid hKK
   clear hKK
   have hmx : Tryz.prog.follows .mixedOrders = true := by kernel_rfl
   refine whichever_region (fun w2 => ChunkQ Bs Bn b off n c w2) [] hmx ?_
   have hS0 : ChunkQ Bs Bn b off n c wr.drew := ⟨hcs,hcn⟩
   refine whichever_take 0 (.int .i64 8) [5,6] rfl (by kernel_rfl) (fun _ _ _ h => h) hS0 (by rfl) (fun w hw => ?_) ?_
   ·obtain ⟨hw1,hw2⟩ := hw
    constructor <;> go_simp
   refine whichever_take 1 (.slice (some ⟨b,off,none⟩) n c) [3,4,5,6] rfl (by kernel_rfl) (fun _ _ _ h => h) hS0 (by rfl) (fun w hw => ?_) ?_
   ·obtain ⟨hw1,hw2⟩ := hw
    constructor <;> go_simp
   refine whichever_take 2 (.int .i64 p) [3,4,5,6] rfl (by kernel_rfl) (fun _ _ _ h => h) hS0 (by rfl) (fun w hw => ?_) ?_
   ·constructor <;> go_simp
   have hq1 : (0 : Int) <= (p : Int) := by omega
   have hq2 : (p : Int) <= (n : Int) := by omega
   refine whichever_take 3 (.slice (some ⟨b,off + p,none⟩) (n - p) (c - p)) [4,5,6] rfl (by kernel_rfl) (fun _ _ _ h => h) hS0 (by rfl) (fun w hw => ?_) ?_
   ·constructor <;> go_simp
    intro h;omega
   refine whichever_take 4 (.int .i64 (n - p : Nat)) [5,6] rfl (by kernel_rfl) (fun _ _ _ h => h) hS0 (by rfl) (fun w hw => ?_) ?_
   ·constructor <;> go_simp
   refine whichever_take 5 (.int .i64 m) [6] rfl (by kernel_rfl) (fun _ _ _ h => h) hS0 (by rfl) (fun w hw => ?_) ?_
   ·constructor <;> go_simp
    have h1 := HM.out
    have h2 := HP.out
    split <;> omega
   refine whichever_take 6 (.int .i64 m) [] rfl (by kernel_rfl) (fun _ _ _ h => h) hS0 (by rfl) (fun w hw => ?_) ?_
   ·constructor <;> go_simp
   refine whichever_end (by kernel_rfl) ?_
   go_simp
   refine HKK.out _ _ ?_
   have hj2 := HJD.out _ _ HJ1.out
   have HENC : Hid (encC b off n k = #[.slice (some ⟨b,off + p,none⟩) m m]) := by rw [Hid,encC,HM.out,HP.out]
   have HYY := HY.out (List.range k) k wr.drew hsz hj2 (range_prefix' hkl)
   rw [HENC.out] at HYY
   obtain ⟨fn,tmps,assign,body,hy,hR⟩ := HYY
   have HRR := Lib.hid hR
   clear hR hj2 hS0 hp'
   gi_wp2
   refine (HRR.out _).mono ?_
   rintro e W3 (⟨rfl,hJ3,hk3⟩ | ⟨rfl,hJx3,_⟩)
   ·have hQ3 := HQ.out _ _ hJ3
    obtain ⟨hcs3,hcn3⟩ := hQ3
    have HJ3 := Lib.hid hJ3
    have HSZ := Lib.hid hk3.size
    clear hJ3 hk3
    gi_wp2
    go_roundw
    case rel => exact ⟨k + 1,p + 8,by go_num,by rw [HP.out];omega,by omega,Nat.le_trans hsz HSZ.out,by rw [List.range_succ];exact HJ3.out⟩
    case measure => simp [intOf];omega
   ·gi_wp2
    refine bodyPost_ret (results_none rfl _ _ _) rfl ?_
    refine ⟨⟨_,rfl⟩,.inr ⟨_,?_,hJx3⟩⟩
    exact range_prefix' hkl
  ·have hkn : k = (n + 7) / 8 := by omega
   clear hp hk hp'
   gi_wp2
   go_end0
   refine ⟨⟨_,rfl⟩,.inl ⟨_,?_,HJ1.out⟩⟩
   rw [hkn]
theorem chunk_iter (Bs Bn b off n c : Nat) (hn : n <= 4096) (hnc : n <= c) (hc : c <= maxLen) (w : World) :
  IterQ Tryz.prog 264 #[.pointer (some ⟨Bs,0,none⟩),.pointer (some ⟨Bn,0,none⟩)] (encC b off n) 0 (ChunkQ Bs Bn b off n c)
   (fun xs => xs = List.range ((n + 7) / 8)) (fun pre => pre <+: List.range ((n + 7) / 8)) (fun pre x => pre ++ [x] <+: List.range ((n + 7) / 8)) w :=
 fun l J Jx W _ hJo _ hQ hY h0 => (chunk1_in l Bs Bn b off n c hn hnc hc (J W.heap.size) (Jx W.heap.size) W (fun _ W1 h => hQ W.heap.size _ W1 h) (fun pre x W1 hs hj hlen => hY W.heap.size pre x W1 (Nat.le_refl _) hs hj hlen)
   (fun _ _ h => OwnFrom.below (hJo _) h (Below.refl _ _).drew) (h0 _ (Nat.le_refl _))).mono
  fun _ _ ⟨hv,h⟩ => ⟨hv,h.elim (fun ⟨xs,h1,h2⟩ => .inl ⟨_,xs,Nat.le_refl _,h1,h2⟩) (fun ⟨xs,h1,h2⟩ => .inr ⟨_,xs,Nat.le_refl _,h1,h2⟩)⟩
theorem chunk_any (v : Value) (w : World) (hv : v.oneCell' = true) :
  Calls Tryz.prog 237 #[v,.int .i64 8] w fun e w' => e = .returned (.func (.func 264) #[] #[.pointer (some ⟨w.heap.size,0,none⟩),.pointer (some ⟨w.heap.size + 1,0,none⟩)]) ∧ w' = (w.alloc (.cells #[v] 26)).alloc (.cells #[.int .i64 8] 3) := by
 go_enter Tryz.func237,Tryz.ntmps237
 go_wp2
 go_ret
 exact ⟨rfl,rfl⟩
end
end Go.Proofs.YtdpooagnbmpinaaGreatDoor
