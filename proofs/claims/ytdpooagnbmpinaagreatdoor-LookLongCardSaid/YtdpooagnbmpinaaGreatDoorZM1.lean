import Derived.Test.YtdpooagnbmpinaaGreatDoorZW8
import Derived.Test.YtdpooagnbmpinaaGreatDoorZB2
import Derived.Shelf.SlSortCmp.NoneTotal
namespace Go.Proofs.YtdpooagnbmpinaaGreatDoor
section
open Go.RowKit Go.Shelf
theorem Tryz.infoText : (Tryz.prog.info? 194).map (fun i => (i.zero,i.size,i.bytes)) = some (some (.string ⟨#[]⟩),1,16) := by kernel_rfl
theorem Tryz.infoStr : (Tryz.prog.info? 9).map (fun i => (i.zero,i.size,i.bytes)) = some (some (.string ⟨#[]⟩),1,16) := by kernel_rfl
theorem Tryz.underlyingTexts : Tryz.prog.underlying 193 = some (.slice 194) := by kernel_rfl
theorem Tryz.underlyingStrs : Tryz.prog.underlying 31 = some (.slice 9) := by kernel_rfl
theorem inOrder_none (w : World) :
  Calls Tryz.prog 117 #[.func (.func 118) #[] #[],.slice none 0 0] w fun e w' => e = .returned (.slice none 0 0) ∧ w' = w := by
 have hs := AnyF.slices_SortFunc_none (P := Tryz.prog) { Tryz.sortText with } none 0 (.func (.func 118) #[] #[]) w
 change Calls Tryz.prog 176 _ _ _ at hs
 have hc : ∀ W,Calls Tryz.prog 177 #[.slice none 0 0] W fun e w' => e = .returned (.slice none 0 0) ∧ w' = W := fun W => by
  go_enter Tryz.func177,Tryz.ntmps177
  go_wp2_with fail
  go_ret
  exact ⟨rfl,rfl⟩
 have HS := Lib.hid hs
 have HC := Lib.hid hc
 clear hs hc
 go_enter Tryz.func117,Tryz.ntmps117
 go_wp2_with fail
 refine HS.out.mono ?_
 rintro e w1 ⟨rfl,rfl⟩
 go_wp2_with fail
 refine (HC.out _).mono ?_
 rintro e w1 ⟨rfl,rfl⟩
 go_wp2_with fail
 go_ret
 exact ⟨rfl,rfl⟩
def SortedPost (xs : List (List UInt8)) (w : World) (e : Ending) (w' : World) : Prop :=
 Below w.heap.size w w' ∧ ((xs.all rightB = false ∧ e = .returned (.tuple #[.slice none 0 0,.int .i64 160])) ∨
  (xs.all rightB = true ∧ ∃ v ys,e = .returned (.tuple #[v,.int .i64 0]) ∧ w'.ownsRow w.heap.size 9 1 v ys.length (ys.map encT) ∧ Rising ys ∧ ∀ x,x ∈ ys ↔ x ∈ xs))
set_option maxRecDepth 100000 in
set_option maxHeartbeats 4000000 in
theorem labelSorted_any (xs : List (List UInt8)) (A : Option Addr) (n c : Nat) (w : World) (hn : xs.length = n) (hm : n <= 100000) (hs : ∀ x ∈ xs,x.length <= maxLen) (h : RowAt w A (xs.map encT)) :
  Calls Tryz.prog 63 #[.slice A n c] w (SortedPost xs w) := by
 obtain ⟨i0,hi,hz0,hz1,hz2⟩ := info_parts Tryz.infoText
 obtain ⟨j0,hj,hy0,hy1,hy2⟩ := info_parts Tryz.infoStr
 have HN := Lib.hid hn
 have HS := Lib.hid hs
 have HR := Lib.hid h
 clear hn hs h
 go_enter Tryz.func63,Tryz.ntmps63
 go_wp2_with fail
 go_loopw [4,13] (fun v i wr => ∃ k : Nat,k <= n ∧ i = .int .i64 k ∧ wr.ownsRow w.heap.size 194 1 v k ((xs.take k).map encT) ∧ Hid ((xs.take k).all rightB = true) ∧ Below w.heap.size w wr ∧ Hid (k = 0 -> v = .slice none 0 0)) (fun _ i _ => n - (intOf i).toNat)
 case atStart => exact ⟨0,Nat.zero_le _,rfl,World.ownsRow_nil _ _ _ _,Lib.hid (by simp),Below.refl _ _,Lib.hid (fun _ => rfl)⟩
 case round =>
  obtain ⟨k,hk,rfl,hown,HAL,hb,HNIL⟩ := hrel
  by_cases hlt : k < n
  ·have hkl : k < xs.length := by rw [HN.out];exact hlt
   obtain ⟨b,off,rfl,hbw,hcb⟩ := HR.out.get (k := k) (u := encT xs[k]) (by rw [List.getElem?_map,List.getElem?_eq_getElem hkl];rfl)
   have hc1 : wr.cell? ⟨b,off + k,none⟩ = some (.string (ofBytes xs[k])) := (hb.cell (p := ⟨b,off + k,none⟩) hbw).trans hcb
   have hsz : (ofBytes xs[k]).size <= maxLen := HS.out _ (List.getElem_mem hkl)
   have HT : Hid ((xs.take (k + 1)) = xs.take k ++ [xs[k]]) := List.take_succ_eq_append_getElem hkl
   have HM : Hid (xs[k] ∈ xs) := List.getElem_mem hkl
   have HCK := Lib.hid (fun W => check_any (ofBytes xs[k]) W hsz)
   have HRT : ∀ bb,rightB xs[k] = bb -> Hid (rightB (ofBytes xs[k]).data.toList = bb) := fun _ h => h
   have HENC : Hid (encT xs[k] = .string (ofBytes xs[k])) := rfl
   have HOWN := Lib.hid hown
   have HLT := Lib.hid hown.lt
   have HB := Lib.hid hb
   have hsw := hb.size
   generalize xs[k] = x at *
   clear hcb hown hb hsz
   cases hr : rightB x
   ·have HR1 := HRT _ hr
    have HF : Hid (xs.all rightB = false) := by
     rw [Hid,Bool.eq_false_iff];intro ha
     have := List.all_eq_true.1 ha x HM.out
     rw [hr] at this;cases this
    clear HRT hr
    go_wp2_with fail
    refine (HCK.out _).mono ?_
    rintro e w1 ⟨rfl,hb1⟩
    rw [HR1.out,show errB false = 160 from rfl]
    go_wp2_with fail
    go_ret2
    exact ⟨HB.out.trans (hb1.mono hsw),.inl ⟨HF.out,rfl⟩⟩
   ·have HR1 := HRT _ hr
    have HAL1 : Hid ((xs.take (k + 1)).all rightB = true) := by rw [Hid,HT.out,List.all_append,HAL.out];simp [hr]
    clear HRT hr
    go_wp2_with fail
    refine (HCK.out _).mono ?_
    rintro e w1 ⟨rfl,hb1⟩
    rw [HR1.out,show errB true = 0 from rfl]
    have HO1 := Lib.hid (owns_below HOWN.out hb1)
    have HB1 := Lib.hid (HB.out.trans (hb1.mono hsw))
    have hs1 : w.heap.size <= w1.heap.size := by have := hb1.size;omega
    clear hb1
    go_wp2_with (at_builtin;refine wpList_append_own _ rfl _ _ 193 rfl w.heap.size 194 i0 (.string ⟨#[]⟩) 1 16 Tryz.underlyingTexts hi hz0 hz1 hz2 rfl (by decide) _ _ _ rfl (HO1.out.alloc _) ⟨w1.heap.size,0,none⟩ 1 1 [.string (ofBytes x)] rfl rfl ?c1 ?c2 ?c3 ?c4 ?c5 ?_)
    case c1 =>
     intro j u hj
     match j,hj with
     | 0,hj => simp at hj;subst hj;simp [Addr.add]
    case c2 => intro u hu;simp at hu;subst hu;rfl
    case c3 => unfold maxLen;omega
    case c4 => omega
    case c5 => simp;omega
    intro v' w2 hown' hgrow _
    have hb2 : Below w.heap.size w w2 := (HB1.out.alloc hs1 _).grown hgrow (by simp;omega) (fun j e => (HLT.out j e).1)
    have HO2 : Hid (w2.ownsRow w.heap.size 194 1 v' (k + 1) ((xs.take (k + 1)).map encT)) := by
     rw [Hid,HT.out,List.map_append,List.map_cons,HENC.out,List.map_take];exact hown'
    clear hgrow hown'
    go_wp2_with fail
    go_roundw
    case rel => exact ⟨k + 1,by omega,by go_num,HO2.out,HAL1,hb2,Lib.hid (fun h => absurd h (by omega))⟩
    case measure => simp [intOf];omega
  ·have hkn : k = n := by omega
   subst hkn
   have HAL1 : Hid (xs.all rightB = true) := by
    have := HAL.out;rw [List.take_of_length_le (by rw [HN.out];omega)] at this;exact this
   rw [List.take_of_length_le (by rw [HN.out];omega)] at hown
   have HB := Lib.hid hb
   have hsw := hb.size
   rcases Nat.eq_zero_or_pos k with h0 | h0
   ·subst h0
    have HX : Hid (xs = []) := List.eq_nil_of_length_eq_zero HN.out
    have hv := HNIL.out rfl
    subst hv
    go_wp2_with fail
    refine (inOrder_none _).mono ?_
    rintro e w1 ⟨rfl,rfl⟩
    go_wp2_with fail
    refine wp_loop_rounds 1 ?_
    rw [rounds_succ]
    go_wp2_with fail
    go_ret2
    exact ⟨HB.out,.inr ⟨HAL1.out,_,[],rfl,World.ownsRow_nil _ _ _ _,List.Pairwise.nil,fun x => by rw [HX.out]⟩⟩
   ·obtain ⟨g,cap,e,hg,hgl⟩ := hown.form h0
    subst e
    have HIO := Lib.hid (inOrder_any xs g k cap w.heap.size wr (by omega) hown)
    clear hown hb
    go_wp2_with fail
    refine HIO.out.mono ?_
    rintro e w2 ⟨ys,rfl,hyc,hyn,hri,hmem,hrow,hgr⟩
    have hb2 : Below w.heap.size w w2 := HB.out.grown hgr hsw (fun j e => by cases e;exact hg)
    have HB2 := Lib.hid hb2
    have HROW := Lib.hid hrow
    have HRI := Lib.hid hri
    have HMEM := Lib.hid hmem
    have hs2 := hb2.size
    have hylen : ys.length <= 100000 := by
     rw [HN.out] at hyn
     omega
    obtain ⟨m,HM⟩ : ∃ m : Nat,Hid (ys.length = m) := ⟨_,rfl⟩
    rw [HM.out] at hylen hyc ⊢
    clear hb2 hrow hri hmem hgr hyn
    go_wp2_with fail
    go_loopw [8,30] (fun v i wr2 => ∃ j : Nat,j <= m ∧ i = .int .i64 j ∧ wr2.ownsRow w2.heap.size 9 1 v j ((ys.take j).map encT) ∧ Below w2.heap.size w2 wr2) (fun _ i _ => m - (intOf i).toNat)
    case atStart => exact ⟨0,Nat.zero_le _,rfl,World.ownsRow_nil _ _ _ _,Below.refl _ _⟩
    case round =>
     obtain ⟨j,hjm,rfl,hown,hb⟩ := hrel
     by_cases hlt : j < m
     ·have hjl : j < ys.length := by rw [HM.out];exact hlt
      obtain ⟨b,off,e,hbw,hcb⟩ := HROW.out.get (k := j) (u := encT ys[j]) (by rw [List.getElem?_map,List.getElem?_eq_getElem hjl];rfl)
      cases e
      have hc1 : wr.cell? ⟨g,j,none⟩ = some (.string (ofBytes ys[j])) := by
       have := (hb.cell (p := ⟨g,0 + j,none⟩) hbw).trans hcb
       rw [Nat.zero_add] at this;exact this
      have HT : Hid ((ys.take (j + 1)) = ys.take j ++ [ys[j]]) := List.take_succ_eq_append_getElem hjl
      have HENC : Hid (encT ys[j] = .string (ofBytes ys[j])) := rfl
      have HOWN := Lib.hid hown
      have HLT := Lib.hid hown.lt
      have HB3 := Lib.hid hb
      have hsw3 := hb.size
      generalize ys[j] = x at *
      clear hcb hown hb
      go_wp2_with (at_builtin;refine wpList_append_own _ rfl _ _ 31 rfl w2.heap.size 9 j0 (.string ⟨#[]⟩) 1 16 Tryz.underlyingStrs hj hy0 hy1 hy2 rfl (by decide) _ _ _ rfl (HOWN.out.alloc _) ⟨wr.heap.size,0,none⟩ 1 1 [.string (ofBytes x)] rfl rfl ?c1 ?c2 ?c3 ?c4 ?c5 ?_)
      case c1 =>
       intro j u hj
       match j,hj with
       | 0,hj => simp at hj;subst hj;simp [Addr.add]
      case c2 => intro u hu;simp at hu;subst hu;rfl
      case c3 => unfold maxLen;omega
      case c4 => omega
      case c5 => simp;omega
      intro v' w4 hown' hgrow _
      have hb4 : Below w2.heap.size w2 w4 := (HB3.out.alloc hsw3 _).grown hgrow (by simp;omega) (fun j e => (HLT.out j e).1)
      have HO4 : Hid (w4.ownsRow w2.heap.size 9 1 v' (j + 1) ((ys.take (j + 1)).map encT)) := by
       rw [Hid,HT.out,List.map_append,List.map_cons,HENC.out,List.map_take];exact hown'
      clear hgrow hown'
      go_wp2_with fail
      go_roundw
      case rel => exact ⟨j + 1,by omega,by go_num,HO4.out,hb4⟩
      case measure => simp [intOf];omega
     ·have hjm' : j = m := by omega
      subst hjm'
      rw [List.take_of_length_le (by rw [HM.out];omega)] at hown
      have HO := Lib.hid (owns_base hown hs2)
      have HB4 := Lib.hid (HB2.out.trans (hb.mono hs2))
      clear hown hb
      go_wp2_with fail
      go_ret2
      exact ⟨HB4.out,.inr ⟨HAL1.out,_,ys,rfl,by rw [HM.out];exact HO.out,HRI.out,HMEM.out⟩⟩
end
section
open Go.RowKit
attribute [local go_sem] Oper.semAt_some
theorem toList_inj {a b : ByteArray} (h : a.toList = b.toList) : a = b := by
 rw [ByteArray.toList_eq,ByteArray.toList_eq] at h
 cases a;cases b
 simp only [ByteArray.mk.injEq]
 exact Array.toList_inj.1 h
def eqL6 (xs ys : List ByteArray) : Bool := decide (xs = ys)
set_option maxRecDepth 100000 in
set_option maxHeartbeats 1000000 in
theorem texts_any (xs ys : List ByteArray) (A B : Option Addr) (n m c d : Nat) (w : World) (hn : xs.length = n) (hn' : ys.length = m) (hm : n <= maxLen) (h : RowAt w A (xs.map .string)) (h' : RowAt w B (ys.map .string)) :
  Calls Tryz.prog 45 #[.slice A n c,.slice B m d] w fun e w' => e = .returned (.bool (eqL6 xs ys)) ∧ Below w.heap.size w w' := by
 unfold maxLen at hm
 have HN := Lib.hid hn
 have HN' := Lib.hid hn'
 have HR := Lib.hid h
 have HR' := Lib.hid h'
 clear hn h hn' h'
 by_cases hnm : n = m
 ·subst hnm
  have hA : (n = 0 ∨ ((∃ b off,A = some ⟨b,off,none⟩) ∧ (∃ b off,B = some ⟨b,off,none⟩))) := by
   rcases Nat.eq_zero_or_pos n with h0 | h0
   ·exact .inl h0
   ·obtain ⟨b,off,e,_⟩ := HR.out (by rw [List.length_map,HN.out];exact h0)
    obtain ⟨b',off',e',_⟩ := HR'.out (by rw [List.length_map,HN'.out];exact h0)
    exact .inr ⟨⟨b,off,e⟩,⟨b',off',e'⟩⟩
  rcases hA with h0 | ⟨⟨b,off,rfl⟩,⟨b2,off2,rfl⟩⟩
  ·have HX : Hid (eqL6 xs ys = true) := by
    rw [Hid,List.eq_nil_of_length_eq_zero (HN.out.trans h0),List.eq_nil_of_length_eq_zero (HN'.out.trans h0)];rfl
   subst h0
   go_enter Tryz.func45,Tryz.ntmps45
   go_wp2_with fail
   refine wp_loop_rounds 1 ?_
   rw [rounds_succ]
   go_wp2_with fail
   go_ret
   exact ⟨by rw [HX.out];rfl,Below.refl _ _⟩
  ·go_enter Tryz.func45,Tryz.ntmps45
   go_wp2_with fail
   go_loopw [5] (fun i wr => ∃ k : Nat,k <= n ∧ i = .int .i64 k ∧ Below w.heap.size w wr ∧ Hid (xs.take k = ys.take k)) (fun i _ => n - (intOf i).toNat)
   case atStart => exact ⟨0,Nat.zero_le _,rfl,Below.refl _ _,Lib.hid (by simp)⟩
   case round =>
    obtain ⟨k,hk,rfl,hb,HP⟩ := hrel
    by_cases hlt : k < n
    ·have hk' : k < xs.length := by rw [HN.out];exact hlt
     have hk2 : k < ys.length := by rw [HN'.out];exact hlt
     obtain ⟨b',off',e',hb',hc⟩ := HR.out.get (k := k) (u := .string xs[k]) (by rw [List.getElem?_map,List.getElem?_eq_getElem hk'];rfl)
     obtain ⟨b3,off3,e3,hb3,hc3⟩ := HR'.out.get (k := k) (u := .string ys[k]) (by rw [List.getElem?_map,List.getElem?_eq_getElem hk2];rfl)
     have hc2 : wr.cell? ⟨b,off + k,none⟩ = some (.string xs[k]) := by
      cases e'
      rw [hb.cell (p := ⟨b,off + k,none⟩) hb'];exact hc
     have hc4 : wr.cell? ⟨b2,off2 + k,none⟩ = some (.string ys[k]) := by
      cases e3
      rw [hb.cell (p := ⟨b2,off2 + k,none⟩) hb3];exact hc3
     have HD : Hid (xs.take (k + 1) = xs.take k ++ [xs[k]]) := List.take_succ_eq_append_getElem hk'
     have HD2 : Hid (ys.take (k + 1) = ys.take k ++ [ys[k]]) := List.take_succ_eq_append_getElem hk2
     generalize xs[k] = s at hc2 HD
     generalize ys[k] = s2 at hc4 HD2
     clear e' hc hb' e3 hc3 hb3
     have hr2 : (s.toList == s2.toList) = !(s.toList != s2.toList) := by simp [bne]
     cases hr : s.toList != s2.toList
     all_goals
      rw [hr] at hr2
      simp only [Bool.not_true,Bool.not_false] at hr2
     ·have HE : Hid (xs.take (k + 1) = ys.take (k + 1)) := by
       rw [Hid,HD.out,HD2.out,HP.out,toList_inj (a := s) (b := s2) (by simpa using hr2)]
      go_wp2_with fail
      go_quiet (fail)
      go_wp2_with fail
      exact ⟨⟨k + 1,by omega,by go_num,below_drewN hb _,HE⟩,by simp [intOf];omega⟩
     ·have HE : Hid (eqL6 xs ys = false) := by
       rw [Hid,eqL6,decide_eq_false_iff_not];rintro rfl
       have := HD.out.symm.trans HD2.out
       have := List.append_cancel_left this
       simp at this;subst this;simp at hr2
      go_wp2_with fail
      go_quiet (fail)
      go_wp2_with fail
      go_ret
      exact ⟨by rw [HE.out];rfl,by first | exact hb | exact below_drewN hb _⟩
    ·have HE : Hid (eqL6 xs ys = true) := by
      have := HP.out
      rw [List.take_of_length_le (by rw [HN.out];omega),List.take_of_length_le (by rw [HN'.out];omega)] at this
      rw [Hid,eqL6,decide_eq_true_iff];exact this
     go_wp2_with fail
     go_ret
     exact ⟨by rw [HE.out];rfl,hb⟩
 ·have HX : Hid (eqL6 xs ys = false) := by
   rw [Hid,eqL6,decide_eq_false_iff_not];rintro rfl;exact hnm (HN.out.symm.trans HN'.out)
  have h1 : ((n : Int) != (m : Int)) = true := by simp;omega
  go_enter Tryz.func45,Tryz.ntmps45
  go_wp2_with fail
  go_ret
  exact ⟨by rw [HX.out];rfl,Below.refl _ _⟩
end
end Go.Proofs.YtdpooagnbmpinaaGreatDoor
