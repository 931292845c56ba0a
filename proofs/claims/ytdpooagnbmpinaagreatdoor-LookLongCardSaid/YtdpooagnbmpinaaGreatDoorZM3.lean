import Derived.Test.YtdpooagnbmpinaaGreatDoorZK9
import Derived.Laws.StructEq
import Derived.ChangeKeysEq
import Derived.Deep.RegionHeld3
namespace Go.Proofs.YtdpooagnbmpinaaGreatDoor
section
open Go.RowKit
def eqF (f g : Nat -> Nat) : Bool := f 0 == g 0 && f 1 == g 1 && f 2 == g 2 && f 3 == g 3 && f 4 == g 4
theorem run_neq_five (f g : Nat -> Nat) (w : World) : (binOp .neq 190 (encF f) (encF g)).run Tryz.prog w = .ok (.bool (!eqF f g)) w := by
 have hu : Tryz.prog.underlying 190 = some (.array 5 24) := by kernel_rfl
 have u1 : Tryz.prog.underlying 24 = some (.int .u64) := by kernel_rfl
 have hz := Tryz.sizeOf24
 have ha := Tryz.isAgg24
 obtain ⟨i0,hi,_,_,_⟩ := info_parts Tryz.infoU64
 have hc : Tryz.prog.cellsOf 24 = 1 := by kernel_rfl
 unfold encF
 simp only [binOp,Op.equal,Op.maxDepth,Sem.run_bind]
 rw [show (10000 : Nat) = 9999 + 1 from rfl,run_equalIn_array w 9999 _ _ hu hi,hc,show List.range 5 = [0,1,2,3,4] from rfl]
 rw [show (9999 : Nat) = 9998 + 1 from rfl]
 simp only [Op.eqItems]
 go_simp
 simp only [eqF]
 go_simp
 simp only [Int.ofNat_inj]
 by_cases h0 : f 0 = g 0 <;> by_cases h1 : f 1 = g 1 <;> by_cases h2 : f 2 = g 2 <;> by_cases h3 : f 3 = g 3 <;> by_cases h4 : f 4 = g 4 <;> simp [h0,h1,h2,h3,h4]
def bytes40 (f : Nat -> Nat) : List UInt8 := (List.range 5).flatMap fun k => byte8 (f k)
def isName (f : Nat -> Nat) (s : List UInt8) : Bool := rightB s && eqF (wordAt s) f
def readL (f : Nat -> Nat) (many : Int) : List UInt8 × Int :=
 if 1 <= many ∧ many <= 40 ∧ isName f ((bytes40 f).take many.toNat) = true then ((bytes40 f).take many.toNat,0) else ([],161)
theorem bytes40_length (f : Nat -> Nat) : (bytes40 f).length = 40 := by
 simp [bytes40,byte8_length,List.range_succ]
theorem bytes_take (f : Nat -> Nat) (k : Nat) (_h : k < 5) : ((List.range (k + 1)).flatMap fun j => byte8 (f j)) = ((List.range k).flatMap fun j => byte8 (f j)) ++ byte8 (f k) := by
 rw [List.range_succ,List.flatMap_append];simp
theorem index_five (f : Nat -> Nat) (k : Nat) (hk : k < 5) (w : World) : (Instr.index 190 (encF f) (.int .i64 k)).run Tryz.prog w = .ok (.int .u64 (f k : Nat)) w := by
 have h : k = 0 ∨ k = 1 ∨ k = 2 ∨ k = 3 ∨ k = 4 := by omega
 have i0 : (Instr.index 190 (encF f) (.int .i64 (0 : Nat))).run Tryz.prog w = .ok (.int .u64 (f 0 : Nat)) w := by kernel_rfl
 have i1 : (Instr.index 190 (encF f) (.int .i64 (1 : Nat))).run Tryz.prog w = .ok (.int .u64 (f 1 : Nat)) w := by kernel_rfl
 have i2 : (Instr.index 190 (encF f) (.int .i64 (2 : Nat))).run Tryz.prog w = .ok (.int .u64 (f 2 : Nat)) w := by kernel_rfl
 have i3 : (Instr.index 190 (encF f) (.int .i64 (3 : Nat))).run Tryz.prog w = .ok (.int .u64 (f 3 : Nat)) w := by kernel_rfl
 have i4 : (Instr.index 190 (encF f) (.int .i64 (4 : Nat))).run Tryz.prog w = .ok (.int .u64 (f 4 : Nat)) w := by kernel_rfl
 rcases h with rfl | rfl | rfl | rfl | rfl
 ·exact i0
 ·exact i1
 ·exact i2
 ·exact i3
 ·exact i4
theorem owns_empty (w : World) (base : Nat) (e : TypeId) (size : Nat) (hb : base <= w.heap.size) : (w.alloc (.cells #[] e)).ownsRow base e size (.slice (some ⟨w.heap.size,0,none⟩) 0 0) 0 [] :=
 World.ownsRow_made w #[] 0 hb (Nat.zero_le _) (by simp)
set_option maxRecDepth 100000 in
set_option maxHeartbeats 2000000 in
theorem labelRead_any (f : Nat -> Nat) (hf : ∀ k,f k < 18446744073709551616) (many : Int) (w : World) (hm : (Lit.int .i64 many).wf = true) :
  Calls Tryz.prog 115 #[encF f,.int .i64 many] w fun e w' => e = .returned (.tuple #[.string (ofBytes (readL f many).1),.int .i64 (readL f many).2]) ∧ Below w.heap.size w w' := by
 obtain ⟨i0,hi,hz0,hz1,hz2⟩ := info_parts Tryz.infoU8
 have HM := Lib.hid hm
 clear hm
 by_cases h1 : 1 <= many
 ·by_cases h40 : many <= 40
  ·obtain ⟨n,rfl⟩ := Int.eq_ofNat_of_zero_le (show 0 <= many by omega)
   have HRD : ∀ b,isName f ((bytes40 f).take n) = b -> Hid (readL f n = if b then ((bytes40 f).take n,0) else ([],161)) := fun b hb => by
    rw [Hid,readL,Int.toNat_natCast,hb]
    cases b
    ·simp
    ·rw [if_pos ⟨h1,h40,rfl⟩];rfl
   have HIX := Lib.hid (fun k hk w => index_five f k hk w)
   have hff := hf
   have HF := Lib.hid hf
   unfold encF at HIX ⊢
   clear hff hf
   go_enter Tryz.func115,Tryz.ntmps115
   go_wp2_with fail
   refine wp_scope_fwd 1 ?_
   go_wp2_with go_step3
   obtain ⟨w0,hw0⟩ : ∃ w0,w0 = ((w.alloc (.cells #[.int .u64 (f 0 : Nat),.int .u64 (f 1 : Nat),.int .u64 (f 2 : Nat),.int .u64 (f 3 : Nat),.int .u64 (f 4 : Nat)] 190)).alloc (.cells #[] 5)) := ⟨_,rfl⟩
   have HW0 := Lib.hid hw0
   clear hw0
   go_loopw [6,21] (fun v i wr => ∃ k : Nat,k <= 5 ∧ i = .int .i64 k ∧ wr.ownsRow (w.heap.size + 1) 5 1 v (8 * k) (((List.range k).flatMap fun j => byte8 (f j)).map encB) ∧ Below w.heap.size w wr ∧ w.heap.size < wr.heap.size ∧ wr.heap[w.heap.size]? = w0.heap[w.heap.size]?) (fun _ i _ => 5 - (intOf i).toNat)
   case atStart =>
    refine ⟨0,Nat.zero_le _,rfl,?_,((Below.refl _ _).alloc (Nat.le_refl _) _).alloc (by simp) _,by simp;omega,by rw [HW0.out]⟩
    have := owns_empty (w.alloc (.cells #[.int .u64 (f 0 : Nat),.int .u64 (f 1 : Nat),.int .u64 (f 2 : Nat),.int .u64 (f 3 : Nat),.int .u64 (f 4 : Nat)] 190)) (w.heap.size + 1) 5 1 (by simp)
    simpa using this
   case round =>
    obtain ⟨k,hk,rfl,hown,hb,hsw,hbx⟩ := hrel
    by_cases hlt : k < 5
    ·have hix := HIX.out k hlt
     have HFK := Lib.hid (HF.out k)
     have HTS := Lib.hid (bytes_take f k hlt)
     have HOWN := Lib.hid hown
     have HB := Lib.hid hb
     have HBX := Lib.hid hbx
     have HLT := Lib.hid hown.lt
     have hsz := hb.size
     generalize hA : f k = a at *
     clear hown hb hbx hA
     go_wp2_with fail
     refine (bytes8_any a wr.heap.size 0 1 _ HFK.out (by simp)).mono ?_
     rintro e w1 ⟨g,rfl,hg,hrow,hb1⟩
     have hO1 := owns_below (HOWN.out.alloc _) hb1
     have hB1 := (HB.out.alloc hsz _).trans (hb1.mono (by simp;omega))
     have hbx1 : w1.heap[w.heap.size]? = w0.heap[w.heap.size]? := (hb1.block w.heap.size (by simp;omega)).trans ((Below.heap_alloc _ _ _ (by omega)).trans HBX.out)
     obtain ⟨g',off',e',_,hgc⟩ := hrow (by rw [List.length_map,byte8_length];omega)
     cases e'
     have HO1 := Lib.hid hO1
     have HB1 := Lib.hid hB1
     have HBX1 := Lib.hid hbx1
     have HGC := Lib.hid hgc
     have hsz1 : wr.heap.size + 1 <= w1.heap.size := by have := hb1.size;simpa using this
     have HB8 : Hid (((byte8 a).map encB).length = 8 * 1) := by rw [Hid,List.length_map,byte8_length]
     clear hO1 hB1 hbx1 hgc hrow hb1 HOWN HB HBX hix
     go_wp2_with (at_builtin;refine wpList_append_own _ rfl _ _ 26 rfl (w.heap.size + 1) 5 i0 (.int .u8 0) 1 1 Tryz.underlyingBytes hi hz0 hz1 hz2 rfl (by decide) _ _ _ rfl HO1.out ⟨g,0,none⟩ 8 8 ((byte8 a).map encB) rfl HB8.out ?c1 ?c2 ?c3 ?c4 ?c5 ?_)
     case c1 => intro j u hj;rw [plain_add];exact HGC.out j u hj
     case c2 => intro u hu;obtain ⟨x,_,rfl⟩ := List.mem_map.1 hu;rfl
     case c3 => unfold maxLen;omega
     case c4 => omega
     case c5 => omega
     intro v' w2 hown' hgrow _
     have hb2 : Below w.heap.size w w2 := HB1.out.grown hgrow (by omega) (fun j e => by have := (HLT.out j e).1;omega)
     have HO2 : Hid (w2.ownsRow (w.heap.size + 1) 5 1 v' (8 * (k + 1)) (((List.range (k + 1)).flatMap fun j => byte8 (f j)).map encB)) := by
      rw [Hid,HTS.out,List.map_append];exact hown'
     have HBX2 : Hid (w2.heap[w.heap.size]? = w0.heap[w.heap.size]?) := by
      refine (hgrow.block w.heap.size (by omega) (fun e => ?_)).trans HBX1.out
      have := (HLT.out _ e.symm).1;omega
     have hs2 : w.heap.size < w2.heap.size := by have := hgrow.size;omega
     clear hgrow hown' HO1 HB1 HBX1 HGC
     go_wp2_with fail
     go_roundw
     case rel => exact ⟨k + 1,by omega,by go_num,HO2.out,hb2,hs2,HBX2.out⟩
     case measure => simp [intOf];omega
    ·have hk5 : k = 5 := by omega
     subst hk5
     obtain ⟨A,cc,rfl,hcc,hcm⟩ := owns_slice hown
     obtain ⟨g,off,rfl,hgl,hgc⟩ := row_of_own hown (by simp [byte8_length,List.range_succ])
     have h0 : off = 0 := by
      obtain ⟨g',cap',e⟩ := ownsRow_succ hown
      injection e with e
      injection e with e
      injection e
     subst h0
     have hn40 : n <= 40 := by omega
     have HTL : Hid (((bytes40 f).take n).length = n) := by rw [Hid,List.length_take,bytes40_length];omega
     have hcv : (convert 26 9 (.slice (some ⟨g,0,none⟩) n cc)).run Tryz.prog wr = .ok (.string (ofBytes ((bytes40 f).take n))) wr := by
      have := run_convert_bytes_back (P := Tryz.prog) wr 26 9 5 ⟨g,0,none⟩ cc ((bytes40 f).take n) Tryz.underlyingBytes Tryz.underlyingByte Tryz.underlyingStr (fun j hj => by
       rw [plain_add]
       rw [HTL.out] at hj
       refine hgc j _ ?_
       rw [List.getElem?_map]
       show Option.map encB ((bytes40 f)[j]?) = _
       rw [List.getElem?_eq_getElem (by rw [bytes40_length];omega),List.getElem_take];rfl)
      rw [HTL.out] at this
      exact this
     have hn0 : (0 : Int) <= (n : Int) := by omega
     have hnc : (n : Int) <= (cc : Int) := by omega
     have HB := Lib.hid hb
     have HBX := Lib.hid hbx
     have HSW := Lib.hid hsw
     clear hown hgc hb hbx
     have hA2 : Arr5 wr w.heap.size f := by
      have hh : wr.heap[w.heap.size]? = some (.cells #[.int .u64 (f 0 : Nat),.int .u64 (f 1 : Nat),.int .u64 (f 2 : Nat),.int .u64 (f 3 : Nat),.int .u64 (f 4 : Nat)] 190 (0,0)) := by
       rw [HBX.out,HW0.out,Below.heap_alloc _ _ _ (by simp)]
       exact heap_alloc_new w _
      refine ⟨fun k hk => ?_,fun k => by simp [World.frozen?,hh]⟩
      rw [cell_of_row _ _ _ _ _ _ hh]
      match k,hk with
      | 0,_ => rfl
      | 1,_ => rfl
      | 2,_ => rfl
      | 3,_ => rfl
      | 4,_ => rfl
     have hsl : (ofBytes ((bytes40 f).take n)).size <= maxLen := by
      have : (ofBytes ((bytes40 f).take n)).size = ((bytes40 f).take n).length := rfl
      rw [this,HTL.out];unfold maxLen;omega
     have HLW := Lib.hid (fun W => labelWords_any (ofBytes ((bytes40 f).take n)) W hsl)
     rw [bytesOf_ofBytes] at HLW
     have HA2 := Lib.hid hA2
     clear hA2 hsl
     have hcases : (rightB ((bytes40 f).take n) = false ∧ Hid (readL f n = ([],161))) ∨ (rightB ((bytes40 f).take n) = true ∧ eqF (wordAt ((bytes40 f).take n)) f = true ∧ Hid (readL f n = ((bytes40 f).take n,0))) ∨ (rightB ((bytes40 f).take n) = true ∧ eqF (wordAt ((bytes40 f).take n)) f = false ∧ Hid (readL f n = ([],161))) := by
      have hn : isName f ((bytes40 f).take n) = (rightB ((bytes40 f).take n) && eqF (wordAt ((bytes40 f).take n)) f) := rfl
      cases hr : rightB ((bytes40 f).take n)
      ·exact .inl ⟨rfl,by have := HRD false (by rw [hn,hr];rfl);rw [Hid,this.out];rfl⟩
      ·cases he : eqF (wordAt ((bytes40 f).take n)) f
       ·exact .inr (.inr ⟨rfl,rfl,by have := HRD false (by rw [hn,hr,he];rfl);rw [Hid,this.out];rfl⟩)
       ·exact .inr (.inl ⟨rfl,rfl,by have := HRD true (by rw [hn,hr,he];rfl);rw [Hid,this.out];rfl⟩)
     clear HRD
     rcases hcases with ⟨hr,HR⟩ | ⟨hr,he,HR⟩ | ⟨hr,he,HR⟩
     ·have hw0' : wordsP ((bytes40 f).take n) = fun _ => 0 := by funext k;rw [wordsP,hr];rfl
      rw [hr,hw0'] at HLW
      clear hr hw0'
      generalize ofBytes ((bytes40 f).take n) = s at *
      unfold encF at HLW
      go_wp2_with go_step3
      refine (HLW.out _).mono ?_
      rintro e w5 ⟨rfl,hb5⟩
      have hA5 := HA2.out.below hb5 hsw
      obtain ⟨d0,d1,d2,d3,d4⟩ := hA5.five
      have hs5 : w.heap.size < w5.heap.size := by have := hb5.size;omega
      have HB5 := Lib.hid (HB.out.trans (hb5.mono (by omega)))
      have he0 : errB false = 160 := rfl
      rw [he0]
      clear hb5 hA5 he0
      go_wp2_with go_step3
      refine fwd_goto _ rfl ?_
      go_wp2_with go_step3
      rw [fwd_ret]
      go_ret2
      exact ⟨by rw [HR.out];rfl,HB5.out.alloc (by omega) _⟩
     all_goals
      have hw0' : wordsP ((bytes40 f).take n) = wordAt ((bytes40 f).take n) := by funext k;rw [wordsP,hr];rfl
      rw [hr,hw0'] at HLW
      have hneq := fun W => run_neq_five (wordAt ((bytes40 f).take n)) f W
      rw [he] at hneq
      clear hr hw0' he
      have HOB : Hid (ofBytes ((bytes40 f).take n) = ofBytes ((bytes40 f).take n)) := rfl
      generalize wordAt ((bytes40 f).take n) = q at *
      unfold encF at HLW hneq
      have HNQ := Lib.hid hneq
      clear hneq
      have HCV := Lib.hid hcv
      clear hcv
      have hcv := HCV.out
      go_wp2_with go_step3
      clear hcv
      refine (HLW.out _).mono ?_
      rintro e w5 ⟨rfl,hb5⟩
      have hA5 := HA2.out.below hb5 hsw
      obtain ⟨d0,d1,d2,d3,d4⟩ := hA5.five
      have hs5 : w.heap.size < w5.heap.size := by have := hb5.size;omega
      have HB5 := Lib.hid (HB.out.trans (hb5.mono (by omega)))
      have he0 : errB true = 0 := rfl
      rw [he0]
      clear hb5 hA5 he0
      have hneq := HNQ.out
      go_wp2_with go_step3
     ·rw [fwd_ret]
      go_ret2
      exact ⟨by rw [HR.out];rfl,HB5.out.alloc (by omega) _⟩
     ·refine fwd_goto _ rfl ?_
      go_wp2_with go_step3
      rw [fwd_ret]
      go_ret2
      exact ⟨by rw [HR.out];rfl,HB5.out.alloc (by omega) _⟩
  ·have HR : Hid (readL f many = ([],161)) := if_neg (fun h => h40 h.2.1)
   unfold encF
   go_enter Tryz.func115,Tryz.ntmps115
   go_wp2_with fail
   refine wp_scope_fwd 1 ?_
   go_wp2_with go_step3
   refine fwd_goto _ rfl ?_
   go_wp2_with go_step3
   rw [fwd_ret]
   go_ret2
   exact ⟨by rw [HR.out];rfl,((Below.refl _ _).alloc (Nat.le_refl _) _).alloc (by simp) _⟩
 ·have HR : Hid (readL f many = ([],161)) := if_neg (fun h => h1 h.1)
  unfold encF
  go_enter Tryz.func115,Tryz.ntmps115
  go_wp2_with fail
  refine wp_scope_fwd 1 ?_
  go_wp2_with go_step3
  refine fwd_goto _ rfl ?_
  go_wp2_with go_step3
  rw [fwd_ret]
  go_ret2
  exact ⟨by rw [HR.out];rfl,((Below.refl _ _).alloc (Nat.le_refl _) _).alloc (by simp) _⟩
def sameL (s : List UInt8) (f : Nat -> Nat) (many : Int) : Bool := (readL f many).2 == 0 && (readL f many).1 == s
end
section
open Go.RowKit
theorem bytes40_eq (f : Nat -> Nat) : bytes40 f = (List.range 40).map fun j => byteOf (f (j / 8)) (j % 8) := rfl
end
section
open Go.RowKit
def l5 (f : Nat -> Nat) : List Nat := (List.range 5).map f
theorem l5_length (f : Nat -> Nat) : (l5 f).length = 5 := by simp [l5]
theorem l5_lt {f : Nat -> Nat} (hf : ∀ k,f k < 18446744073709551616) : ∀ a ∈ l5 f,a < 18446744073709551616 := fun a ha => by
 obtain ⟨k,_,rfl⟩ := List.mem_map.1 ha
 exact hf k
theorem byteW_five (f : Nat -> Nat) {k : Nat} (h : k < 40) : byteW (l5 f) k = (byteOf (f (k / 8)) (k % 8)).toNat := by
 rw [byteW,l5,List.getD_eq_getElem?_getD,List.getElem?_map,List.getElem?_range (by omega),byteOf]
 simp
theorem bytes40_grow (f : Nat -> Nat) {k : Nat} (h : k < 40) : (bytes40 f).take (k + 1) = (bytes40 f).take k ++ [byteOf (f (k / 8)) (k % 8)] := by
 rw [bytes40_eq,<- List.map_take,<- List.map_take,List.take_range,List.take_range,show min (k + 1) 40 = k + 1 by omega,show min k 40 = k by omega,List.range_succ,List.map_append];rfl
theorem row_five {w : World} {b : Nat} {f : Nat -> Nat} {t : TypeId} (h : w.heap[b]? = some (.cells #[.int .u64 (f 0 : Nat),.int .u64 (f 1 : Nat),.int .u64 (f 2 : Nat),.int .u64 (f 3 : Nat),.int .u64 (f 4 : Nat)] t (0,0))) : RowAt w (some ⟨b,0,none⟩) ((l5 f).map encW) := fun _ =>
 ⟨b,0,rfl,(Array.getElem?_eq_some_iff.1 h).1,fun k u hu => by
  have hk : k < 5 := by have := (List.getElem?_eq_some_iff.1 hu).1;simpa [l5_length] using this
  rw [Nat.zero_add,cell_of_row _ _ _ _ _ _ h]
  match k,hk with
  | 0,_ => exact hu
  | 1,_ => exact hu
  | 2,_ => exact hu
  | 3,_ => exact hu
  | 4,_ => exact hu⟩
set_option maxRecDepth 100000 in
set_option maxHeartbeats 4000000 in
theorem refRead_any (f : Nat -> Nat) (hf : ∀ k,f k < 18446744073709551616) (many : Int) (w : World) (hm : (Lit.int .i64 many).wf = true) :
  Calls Tryz.prog 127 #[encF f,.int .i64 many] w fun e w' => e = .returned (.tuple #[.string (ofBytes (readL f many).1),.bool ((readL f many).2 == 0)]) ∧ Below w.heap.size w w' := by
 obtain ⟨i0,hi,hz0,hz1,hz2⟩ := info_parts Tryz.infoU8
 have HM := Lib.hid hm
 clear hm
 by_cases h1 : 1 <= many
 ·by_cases h40 : many <= 40
  ·obtain ⟨n,rfl⟩ := Int.eq_ofNat_of_zero_le (show 0 <= many by omega)
   have HRD : ∀ b,isName f ((bytes40 f).take n) = b -> Hid (readL f n = if b then ((bytes40 f).take n,0) else ([],161)) := fun b hb => by
    rw [Hid,readL,Int.toNat_natCast,hb]
    cases b
    ·simp
    ·rw [if_pos ⟨h1,h40,rfl⟩];rfl
   have HF := Lib.hid hf
   unfold encF
   clear hf
   go_enter Tryz.func127,Tryz.ntmps127
   go_wp2_with fail
   go_loopw [6,7] (fun v i wr => ∃ k : Nat,k <= n ∧ i = .int .i64 k ∧ wr.ownsRow (w.heap.size + 1) 5 1 v k (((bytes40 f).take k).map encB) ∧ Below w.heap.size w wr ∧ w.heap.size < wr.heap.size ∧ wr.heap[w.heap.size]? = some (.cells #[.int .u64 (f 0 : Nat),.int .u64 (f 1 : Nat),.int .u64 (f 2 : Nat),.int .u64 (f 3 : Nat),.int .u64 (f 4 : Nat)] 190 (0,0))) (fun _ i _ => n - (intOf i).toNat)
   case atStart =>
    exact ⟨0,Nat.zero_le _,rfl,World.ownsRow_nil _ _ _ _,(Below.refl _ _).alloc (Nat.le_refl _) _,by simp,heap_alloc_new w _⟩
   case round =>
    obtain ⟨k,hk,rfl,hown,hb,hsw,hbx⟩ := hrel
    by_cases hlt : k < n
    ·have HBY := Lib.hid (refbyte_any (l5 f) (some ⟨w.heap.size,0,none⟩) 5 5 k wr (l5_length f) (by decide) (by omega) (l5_lt HF.out) (row_five hbx))
     rw [byteW_five f (by omega)] at HBY
     have HTS := Lib.hid (bytes40_grow f (k := k) (by omega))
     generalize hB : byteOf (f (k / 8)) (k % 8) = y at *
     have HOWN := Lib.hid hown
     have HB := Lib.hid hb
     have HBX := Lib.hid hbx
     have HLT := Lib.hid hown.lt
     have hsz := hb.size
     clear hown hb hbx hB
     go_wp2_with fail
     refine HBY.out.mono ?_
     rintro e w1 ⟨rfl,hb1⟩
     have HO1 := Lib.hid (owns_below HOWN.out hb1)
     have HB1 := Lib.hid (HB.out.trans (hb1.mono hsz))
     have HBX1 := Lib.hid ((hb1.block w.heap.size hsw).trans HBX.out)
     have hsw1 : w.heap.size < w1.heap.size := by have := hb1.size;omega
     clear hb1 HOWN HB HBX
     go_wp2_with (at_builtin;refine wpList_append_own _ rfl _ _ 26 rfl (w.heap.size + 1) 5 i0 (.int .u8 0) 1 1 Tryz.underlyingBytes hi hz0 hz1 hz2 rfl (by decide) _ _ _ rfl (HO1.out.alloc _) ⟨w1.heap.size,0,none⟩ 1 1 [.int .u8 (y.toNat : Nat)] rfl rfl ?c1 ?c2 ?c3 ?c4 ?c5 ?_)
     case c1 =>
      intro j u hj
      match j,hj with
      | 0,hj =>
       simp at hj
       subst hj
       simp [Addr.add]
     case c2 => intro u hu;rw [List.mem_singleton.1 hu];rfl
     case c3 => unfold maxLen;omega
     case c4 => omega
     case c5 => simp;omega
     intro v' w2 hown' hgrow _
     have hb2 : Below w.heap.size w w2 := (HB1.out.alloc (by omega) _).grown hgrow (by simp;omega) (fun j e => by have := (HLT.out j e).1;omega)
     have HO2 : Hid (w2.ownsRow (w.heap.size + 1) 5 1 v' (k + 1) (((bytes40 f).take (k + 1)).map encB)) := by
      rw [Hid,HTS.out,List.map_append,List.map_take];exact hown'
     have HBX2 : Hid (w2.heap[w.heap.size]? = some (.cells #[.int .u64 (f 0 : Nat),.int .u64 (f 1 : Nat),.int .u64 (f 2 : Nat),.int .u64 (f 3 : Nat),.int .u64 (f 4 : Nat)] 190 (0,0))) := by
      refine (hgrow.block w.heap.size (by simp;omega) (fun e => ?_)).trans ((Below.heap_alloc _ _ _ (by omega)).trans HBX1.out)
      have := (HLT.out _ e.symm).1;omega
     have hs2 : w.heap.size < w2.heap.size := by have := hgrow.size;simp at this;omega
     clear hgrow hown' HO1 HB1 HBX1
     go_wp2_with fail
     go_roundw
     case rel => exact ⟨k + 1,by omega,by go_num,HO2.out,hb2,hs2,HBX2.out⟩
     case measure => simp [intOf];omega
    ·have hkn : k = n := by omega
     subst hkn
     obtain ⟨A,cc,rfl,hcc,hcm⟩ := owns_slice hown
     have HTL : Hid (((bytes40 f).take k).length = k) := by rw [Hid,List.length_take,bytes40_length];omega
     obtain ⟨g,off,rfl,hgl,hgc⟩ := row_of_own hown (by rw [List.length_map,HTL.out];omega)
     have hcv : (convert 26 9 (.slice (some ⟨g,off,none⟩) k cc)).run Tryz.prog wr = .ok (.string (ofBytes ((bytes40 f).take k))) wr := by
      have := run_convert_bytes_back (P := Tryz.prog) wr 26 9 5 ⟨g,off,none⟩ cc ((bytes40 f).take k) Tryz.underlyingBytes Tryz.underlyingByte Tryz.underlyingStr (fun j hj => by
       rw [plain_add]
       refine hgc j _ ?_
       rw [List.getElem?_map,List.getElem?_eq_getElem hj];rfl)
      rw [HTL.out] at this
      exact this
     have HBL : Hid ((ofBytes ((bytes40 f).take k)).size = k) := HTL.out
     have HA : Hid (Arr5 wr w.heap.size f) := by
      refine ⟨fun k hk => ?_,fun k => by simp [World.frozen?,hbx]⟩
      rw [cell_of_row _ _ _ _ _ _ hbx]
      match k,hk with
      | 0,_ => rfl
      | 1,_ => rfl
      | 2,_ => rfl
      | 3,_ => rfl
      | 4,_ => rfl
     have HB := Lib.hid hb
     have HSW := Lib.hid hsw
     clear hown hgc hb hbx
     have HRT := Lib.hid (fun W => refRight_any (ofBytes ((bytes40 f).take k)) W (by rw [HBL.out];unfold maxLen;omega))
     have HWD := Lib.hid (fun W => refWords6_any (ofBytes ((bytes40 f).take k)) W (by rw [HBL.out];omega) (by rw [HBL.out];omega))
     have hn : ∀ l,rightB (ofBytes l).data.toList = rightB l := fun l => rfl
     have hn2 : ∀ l,bytesOf (ofBytes l) = l := fun l => rfl
     rw [hn] at HRT
     rw [hn2] at HWD
     have hneq := fun W => run_neq_five (wordAt ((bytes40 f).take k)) f W
     have hcase : (rightB ((bytes40 f).take k) = false ∧ Hid (readL f k = ([],161))) ∨ (rightB ((bytes40 f).take k) = true ∧ eqF (wordAt ((bytes40 f).take k)) f = true ∧ Hid (readL f k = ((bytes40 f).take k,0))) ∨ (rightB ((bytes40 f).take k) = true ∧ eqF (wordAt ((bytes40 f).take k)) f = false ∧ Hid (readL f k = ([],161))) := by
      have hnm : isName f ((bytes40 f).take k) = (rightB ((bytes40 f).take k) && eqF (wordAt ((bytes40 f).take k)) f) := rfl
      cases hr : rightB ((bytes40 f).take k)
      ·exact .inl ⟨rfl,by have := HRD false (by rw [hnm,hr];rfl);rw [Hid,this.out];rfl⟩
      ·cases he : eqF (wordAt ((bytes40 f).take k)) f
       ·exact .inr (.inr ⟨rfl,rfl,by have := HRD false (by rw [hnm,hr,he];rfl);rw [Hid,this.out];rfl⟩)
       ·exact .inr (.inl ⟨rfl,rfl,by have := HRD true (by rw [hnm,hr,he];rfl);rw [Hid,this.out];rfl⟩)
     clear HRD hn hn2
     have HKS : ∀ w2 : World,Below wr.drew.heap.size wr.drew w2 -> Hid (w2.cell? ⟨w.heap.size,0,none⟩ = some (.int .u64 (f 0 : Nat)) ∧ w2.cell? ⟨w.heap.size,1,none⟩ = some (.int .u64 (f 1 : Nat)) ∧ w2.cell? ⟨w.heap.size,2,none⟩ = some (.int .u64 (f 2 : Nat)) ∧ w2.cell? ⟨w.heap.size,3,none⟩ = some (.int .u64 (f 3 : Nat)) ∧ w2.cell? ⟨w.heap.size,4,none⟩ = some (.int .u64 (f 4 : Nat))) := fun w2 hb2 => by
      have h2 : Arr5 w2 w.heap.size f := by
       have h3 : Arr5 wr.drew w.heap.size f := ⟨fun k hk => (HA.out.1 k hk),fun k => (HA.out.2 k)⟩
       exact h3.below hb2 HSW.out
      exact h2.five
     generalize (bytes40 f).take k = l at *
     rcases hcase with ⟨hr,HR⟩ | ⟨hr,he,HR⟩ | ⟨hr,he,HR⟩
     ·rw [hr] at HRT
      clear hneq HWD hr
      go_wp2_with fail
      go_still_tail 8,(by kernel_rfl)
      still_call ((HRT.out _).mono fun _ _ ⟨he,hw⟩ => ⟨he,hw.symm⟩)
      repeat still_step
      refine wpStill_nil ?_
      go_wp2_with fail
      go_ret2
      exact ⟨by rw [HR.out];rfl,HB.out.drew⟩
     all_goals
      rw [hr] at HRT
      rw [he] at hneq
      unfold encF at HWD hneq
      clear hr he
      generalize wordAt l = q at *
      go_wp2_with fail
      go_region_held3 (fun w1 => w1.cell? ⟨w.heap.size,0,none⟩ = some (.int .u64 (f 0 : Nat)) ∧ w1.cell? ⟨w.heap.size,1,none⟩ = some (.int .u64 (f 1 : Nat)) ∧ w1.cell? ⟨w.heap.size,2,none⟩ = some (.int .u64 (f 2 : Nat)) ∧ w1.cell? ⟨w.heap.size,3,none⟩ = some (.int .u64 (f 3 : Nat)) ∧ w1.cell? ⟨w.heap.size,4,none⟩ = some (.int .u64 (f 4 : Nat)))
       (first | exact (HKS _ (Below.refl _ _)).out | exact (HKS _ hb2).out | go_keep)
       ((first | (go_at_call 68;refine (HRT.out _).mono ?_;rintro e w2 ⟨rfl,rfl⟩) | (go_at_call 183;refine (HWD.out _).mono ?_;rintro e w2 ⟨rfl,hb2⟩)))
      all_goals
       go_wp2_with fail
       go_ret2
       exact ⟨by rw [HR.out];rfl,below_trans HB.out.drew hb2⟩
  ·have HR : Hid (readL f many = ([],161)) := if_neg (fun h => h40 h.2.1)
   unfold encF
   go_enter Tryz.func127,Tryz.ntmps127
   go_wp2_with fail
   go_ret2
   exact ⟨by rw [HR.out];rfl,(Below.refl _ _).alloc (Nat.le_refl _) _⟩
 ·have HR : Hid (readL f many = ([],161)) := if_neg (fun h => h1 h.1)
  unfold encF
  go_enter Tryz.func127,Tryz.ntmps127
  go_wp2_with fail
  go_ret2
  exact ⟨by rw [HR.out];rfl,(Below.refl _ _).alloc (Nat.le_refl _) _⟩
end
end Go.Proofs.YtdpooagnbmpinaaGreatDoor
