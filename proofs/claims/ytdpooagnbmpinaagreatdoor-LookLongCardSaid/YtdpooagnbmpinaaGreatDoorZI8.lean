import Derived.Test.YtdpooagnbmpinaaGreatDoorZP1
import Derived.Laws.AppendOwn
import Derived.Test.YtdpooagnbmpinaaGreatDoorZI7
namespace Go.Proofs.YtdpooagnbmpinaaGreatDoor
section
open Go.RowKit
attribute [local go_sem] Oper.semAt_some
end
section
open Go.RowKit
attribute [local go_sem] Oper.semAt_some
def SplI (s : ByteArray) (k : Nat) (out : List ByteArray) (p : ByteArray) : Prop :=
 (∀ x ∈ out,bytesOf x ≠ []) ∧ (47 : UInt8) ∉ bytesOf p ∧
 (k <= s.size -> splitL 47 ((bytesOf s).drop 1) = out.map bytesOf ++ splitL 47 (bytesOf p ++ (bytesOf s).drop k)) ∧ (s.size < k -> splitL 47 ((bytesOf s).drop 1) = out.map bytesOf)
theorem drop_get (s : ByteArray) (k : Nat) (h : k < s.size) : (bytesOf s).drop k = s[k] :: (bytesOf s).drop (k + 1) := by
 rw [List.drop_eq_getElem_cons (by rw [size_bytesOf];exact h)];rfl
theorem bytesOf_one (s : ByteArray) (k : Nat) (h : k < s.size) : bytesOf (s.extract k (k + 1)) = [s[k]] := by
 rw [bytesOf_extract,List.drop_take,drop_get s k h]
 rw [show k + 1 - k = 1 from by omega];rfl
theorem spl_start (s : ByteArray) (h : 1 <= s.size) : SplI s 1 [] ⟨#[]⟩ := by
 refine ⟨by simp,by simp [bytesOf],fun _ => ?_,fun h' => by omega⟩
 simp [bytesOf]
theorem spl_letter {s : ByteArray} {k : Nat} {out : List ByteArray} {p : ByteArray} (h : SplI s k out p) (hk : k < s.size) (hne : s[k] ≠ 47) : SplI s (k + 1) out (p ++ s.extract k (k + 1)) := by
 refine ⟨h.1,?_,fun _ => ?_,fun h' => by omega⟩
 ·rw [bytesOf_append,bytesOf_one s k hk,List.mem_append]
  rintro (h' | h')
  ·exact h.2.1 h'
  ·exact hne (List.mem_singleton.1 h').symm
 ·rw [h.2.2.1 (by omega),bytesOf_append,bytesOf_one s k hk,drop_get s k hk,List.append_assoc];rfl
theorem spl_bound {s : ByteArray} {k : Nat} {out : List ByteArray} {p : ByteArray} (h : SplI s k out p) (hk : k <= s.size) (hb : ∀ h : k < s.size,s[k] = 47) :
  ∃ more,splitL 47 ((bytesOf s).drop 1) = out.map bytesOf ++ bytesOf p :: more ∧ (k < s.size -> more = splitL 47 ((bytesOf s).drop (k + 1))) ∧ (k = s.size -> more = []) := by
 rcases Nat.lt_or_ge k s.size with hlt | hge
 ·refine ⟨splitL 47 ((bytesOf s).drop (k + 1)),?_,fun _ => rfl,fun e => by omega⟩
  rw [h.2.2.1 hk,drop_get s k hlt,hb hlt,splitL_append _ h.2.1]
 ·refine ⟨[],?_,fun e => by omega,fun _ => rfl⟩
  rw [h.2.2.1 hk,List.drop_eq_nil_of_le (by rw [size_bytesOf];exact hge),List.append_nil,splitL_none h.2.1]
theorem spl_push {s : ByteArray} {k : Nat} {out : List ByteArray} {p : ByteArray} (h : SplI s k out p) (hk : k <= s.size) (hb : ∀ h : k < s.size,s[k] = 47) (hp : bytesOf p ≠ []) : SplI s (k + 1) (out ++ [p]) ⟨#[]⟩ := by
 obtain ⟨more,h1,h2,h3⟩ := spl_bound h hk hb
 refine ⟨fun x hx => ?_,by simp [bytesOf],fun hk' => ?_,fun hk' => ?_⟩
 ·rcases List.mem_append.1 hx with hx | hx
  ·exact h.1 x hx
  ·rw [List.mem_singleton.1 hx];exact hp
 ·rw [h1,h2 (by omega)];simp [bytesOf]
 ·rw [h1,h3 (by omega)];simp
section
variable {s : ByteArray} {k : Nat} {out : List ByteArray} {p : ByteArray}
theorem readP_long (hpre : Lib.hasPrefix (bytesOf s) [47] = true) (hd : (bytesOf s).drop 1 ≠ []) : readP (bytesOf s) = readN (splitL 47 ((bytesOf s).drop 1)) := by
 rw [readP,if_pos hpre,readR,if_neg hd]
theorem spl_empty (hpre : Lib.hasPrefix (bytesOf s) [47] = true) (hd : (bytesOf s).drop 1 ≠ []) (h : SplI s k out p) (hk : k <= s.size) (hb : ∀ h : k < s.size,s[k] = 47) (hp : bytesOf p = []) : readP (bytesOf s) = (170,[]) := by
 obtain ⟨more,h1,_⟩ := spl_bound h hk hb
 rw [readP_long hpre hd,h1,hp,readN,if_pos (by simp)]
theorem spl_many (hpre : Lib.hasPrefix (bytesOf s) [47] = true) (hd : (bytesOf s).drop 1 ≠ []) (h : SplI s k out p) (hk : k <= s.size) (hb : ∀ h : k < s.size,s[k] = 47) (ho : out.length = 16) : readP (bytesOf s) = (170,[]) := by
 obtain ⟨more,h1,_⟩ := spl_bound h hk hb
 rw [readP_long hpre hd,h1,readN]
 have : 16 < (out.map bytesOf ++ bytesOf p :: more).length := by simp;omega
 rw [if_pos this]
 split <;> rfl
theorem spl_end (hpre : Lib.hasPrefix (bytesOf s) [47] = true) (hd : (bytesOf s).drop 1 ≠ []) (h : SplI s k out p) (hk : s.size < k) (ho : out.length <= 16) : readP (bytesOf s) = if out.all rightS then (0,out.map bytesOf) else (160,[]) := by
 rw [readP_long hpre hd,h.2.2.2 hk,readN]
 have h1 : (out.map bytesOf).any List.isEmpty = false := by
  rw [List.any_eq_false]
  intro x hx
  obtain ⟨y,hy,rfl⟩ := List.mem_map.1 hx
  rw [List.isEmpty_iff];exact h.1 y hy
 have h2 : (out.map bytesOf).all rightB = out.all rightS := by rw [List.all_map];rfl
 rw [h1,if_neg (by simp),if_neg (by simp;omega),h2]
end
theorem row_of_owns {w : World} {base : Nat} {e : TypeId} {v : Value} {n : Nat} {xs : List Value} (h : w.ownsRow base e 1 v n xs) :
  ∃ A c,v = .slice A n c ∧ n <= c ∧ c <= maxLen ∧ RowAt w A xs ∧ (∀ ad,A = some ad -> base <= ad.block) ∧ xs.length = n := by
 have hlt := h.lt
 have hcells := fun g hg => h.cells (g := g) hg
 obtain ⟨hl,h⟩ := h
 rw [Nat.mul_one] at hl
 rcases h with ⟨rfl,rfl⟩ | ⟨g,cap,cur,rfl,hg,hh,hn,hc,_,_⟩
 ·exact ⟨none,0,rfl,Nat.le_refl _,by simp [maxLen],(fun hp => by omega),(fun _ e => by cases e),hl⟩
 ·refine ⟨_,cap,rfl,hn,hc,fun _ => ⟨g,0,rfl,(hlt g rfl).2,fun k u hu => ?_⟩,fun ad e => by cases e;exact hg,hl⟩
  have h1 := hcells g rfl k u hu
  have e : ((⟨g,0,none⟩ : Addr).add k) = ⟨g,0 + k,none⟩ := by
   unfold Addr.add
   split <;> simp_all
  rwa [e] at h1
theorem Tryz.infoString : (Tryz.prog.info? 9).map (fun i => (i.zero,i.size,i.bytes)) = some (some (.string ⟨#[]⟩),1,16) := by kernel_rfl
theorem Tryz.underlyingStrings : Tryz.prog.underlying 31 = some (.slice 9) := by kernel_rfl
set_option maxRecDepth 100000 in
set_option maxHeartbeats 2000000 in
theorem refsplit_any (s : ByteArray) (w : World) (hs : s.size < 4294967281) :
  Calls Tryz.prog 38 #[.string s] w (SplitPPost s w) := by
 by_cases h1 : bytesOf s = [47]
 ·have HF : Hid (readP (bytesOf s) = (0,[])) := by rw [Hid,h1];rfl
  have h1' : (s.toList == [47]) = true := by rw [ByteArray.toList_eq];simpa [bytesOf] using h1
  clear h1
  go_enter Tryz.func38,Tryz.ntmps38
  go_wp2_with fail
  go_ret2
  exact ⟨.slice none 0 0,by rw [HF.out];rfl,by rw [HF.out];exact pathAt_nil _,Below.refl _ _,fresh_nil _ _ _⟩
 ·have h1' : (s.toList == [47]) = false := by rw [ByteArray.toList_eq];simpa [bytesOf] using h1
  by_cases h2 : bytesOf s = []
  ·have HF : Hid (readP (bytesOf s) = (170,[])) := by rw [Hid,h2];rfl
   have h2' : (s.toList == []) = true := by rw [ByteArray.toList_eq];simpa [bytesOf] using h2
   clear h1 h2
   go_enter Tryz.func38,Tryz.ntmps38
   go_wp2_with fail
   go_ret2
   exact ⟨.slice none 0 0,by rw [HF.out];rfl,by rw [HF.out];exact pathAt_nil _,Below.refl _ _,fresh_nil _ _ _⟩
  ·have h2' : (s.toList == []) = false := by rw [ByteArray.toList_eq];simpa [bytesOf] using h2
   have hs0 : 0 < s.size := by
    rw [<- size_bytesOf];exact List.length_pos_iff.2 h2
   have hcons : bytesOf s = s[0] :: (bytesOf s).drop 1 := by
    have := drop_get s 0 hs0
    simpa using this
   by_cases h3 : s[0] = 47
   ·have HPRE : Hid (Lib.hasPrefix (bytesOf s) [47] = true) := by rw [Hid,hcons,h3];simp [Lib.hasPrefix]
    have HD : Hid ((bytesOf s).drop 1 ≠ []) := fun e => by rw [e,h3] at hcons;exact h1 hcons
    have h3' : ((s[0].toNat : Int) != 47) = false := by rw [h3];rfl
    have HST := Lib.hid (spl_start s hs0)
    clear h1 h2 hcons h3
    obtain ⟨i0,hi,hz0,hz1,hz2⟩ := info_parts Tryz.infoString
    go_enter Tryz.func38,Tryz.ntmps38
    go_wp2_with fail
    go_loopw [4,5,6] (fun v p i wr => ∃ (k : Nat) (out : List ByteArray) (q : ByteArray),i = .int .i64 k ∧ p = .string q ∧ 1 <= k ∧ k <= s.size + 1 ∧ q.size <= k ∧ out.length <= 16 ∧ wr.ownsRow w.heap.size 9 1 v out.length (out.map .string) ∧ Below w.heap.size w wr ∧ Hid (SplI s k out q)) (fun _ _ i _ => s.size + 1 - (intOf i).toNat)
    case atStart => exact ⟨1,[],⟨#[]⟩,rfl,rfl,Nat.le_refl _,by omega,Nat.zero_le _,Nat.zero_le _,World.ownsRow_nil _ _ _ _,Below.refl _ _,HST.out⟩
    case round =>
     obtain ⟨k,out,q,rfl,rfl,hk1,hk,hq,hol,hown,hb,HI⟩ := hrel
     have HB := Lib.hid hb
     have hsz := hb.size
     clear hb
     by_cases hks : k <= s.size
     ·have hcase : (∃ h : k < s.size,s[k] ≠ 47) ∨ (∃ h : k < s.size,s[k] = 47) ∨ k = s.size := by
       rcases Nat.lt_or_ge k s.size with h | h
       ·by_cases e : s[k] = 47
        ·exact .inr (.inl ⟨h,e⟩)
        ·exact .inl ⟨h,e⟩
       ·exact .inr (.inr (by omega))
      rcases hcase with ⟨hlt,hne⟩ | hbd
      ·have HL := Lib.hid (spl_letter HI.out hlt hne)
       have hc' : ((s[k].toNat : Int) != 47) = true := by
        rw [bne_iff_ne];intro e;exact hne (UInt8.toNat_inj.1 (by have : (47 : UInt8).toNat = 47 := rfl;omega))
       have hex : (s.extract k (k + 1)).size = 1 := by
        rw [<- size_bytesOf,bytesOf_one s k hlt];rfl
       have HOWN := Lib.hid hown
       clear hown hne
       go_wp2_with fail
       exact ⟨⟨k + 1,out,_,by go_num,rfl,by omega,by omega,by rw [ByteArray.size_append];omega,hol,HOWN.out,HB.out,HL.out⟩,by simp [intOf];omega⟩
      ·have HBD : Hid (∀ h : k < s.size,s[k] = 47) := fun h => by
        rcases hbd with ⟨_,e⟩ | e
        ·exact e
        ·omega
       have hbd' : (∃ h : k < s.size,((s[k].toNat : Int) != 47) = false) ∨ k = s.size := by
        rcases hbd with ⟨h,e⟩ | e
        ·exact .inl ⟨h,by rw [e];rfl⟩
        ·exact .inr e
       clear hbd
       by_cases hq0 : bytesOf q = []
       ·have HF := Lib.hid (spl_empty HPRE.out HD.out HI.out hks HBD.out hq0)
        have hq0' : (q.toList == []) = true := by rw [ByteArray.toList_eq];simpa [bytesOf] using hq0
        clear hq0 hown
        rcases hbd' with ⟨hlt,hc'⟩ | hke
        all_goals
         go_wp2_with fail
         go_ret2
         exact ⟨.slice none 0 0,by rw [HF.out];rfl,by rw [HF.out];exact pathAt_nil _,HB.out,fresh_nil _ _ _⟩
       ·have hq0' : (q.toList == []) = false := by rw [ByteArray.toList_eq];simpa [bytesOf] using hq0
        by_cases h16 : out.length = 16
        ·have HF := Lib.hid (spl_many HPRE.out HD.out HI.out hks HBD.out h16)
         obtain ⟨A,c,rfl,hnc,hcm,_⟩ := row_of_owns hown
         rw [h16] at hnc ⊢
         clear hq0 hown h16
         rcases hbd' with ⟨hlt,hc'⟩ | hke
         all_goals
          go_wp2_with fail
          go_ret2
          exact ⟨.slice none 0 0,by rw [HF.out];rfl,by rw [HF.out];exact pathAt_nil _,HB.out,fresh_nil _ _ _⟩
        ·have HP := Lib.hid (spl_push HI.out hks HBD.out hq0)
         clear hq0
         obtain ⟨A,c,rfl,hnc,hcm,_⟩ := row_of_owns hown
         obtain ⟨n,HN⟩ : ∃ n : Nat,Hid (out.length = n) := ⟨_,rfl⟩
         rw [HN.out] at hown hnc hol h16 ⊢
         have h16' : ((n : Int) == 16) = false := by rw [beq_eq_false_iff_ne];omega
         have hn15 : n + 1 <= 16 := by omega
         have HOWN := Lib.hid hown
         have HLT := Lib.hid hown.lt
         clear hown h16
         rcases hbd' with ⟨hlt,hc'⟩ | hke
         all_goals
          go_wp2_with (at_builtin;refine wpList_append_own _ rfl _ _ 31 rfl w.heap.size 9 i0 (.string ⟨#[]⟩) 1 16 Tryz.underlyingStrings hi hz0 hz1 hz2 rfl (by decide) _ _ _ rfl (HOWN.out.alloc _) ⟨wr.heap.size,0,none⟩ 1 1 [.string q] rfl rfl ?c1 ?c2 ?c3 ?c4 ?c5 ?_)
          case c1 =>
           intro j u hj
           match j,hj with
           | 0,hj => simp at hj;subst hj;simp [Addr.add]
          case c2 => intro u hu;simp at hu;subst hu;rfl
          case c3 => unfold maxLen;omega
          case c4 => omega
          case c5 => simp;omega
          intro v' w1 hown' hgrow _
          have HB1 : Hid (Below w.heap.size w w1) := (HB.out.alloc hsz _).grown hgrow (by simp;omega) (fun r e => (HLT.out r e).1)
          have HO1 := Lib.hid hown'
          clear hown' hgrow
          go_wp2_with fail
          exact ⟨⟨k + 1,out ++ [q],⟨#[]⟩,by go_num,rfl,by omega,by omega,Nat.zero_le _,by rw [List.length_append,HN.out];simp;omega,by rw [List.length_append,HN.out,List.map_append];exact HO1.out,HB1.out,HP.out⟩,by simp [intOf];omega⟩
     ·obtain ⟨A,c,rfl,hnc,hcm,hrow,hfr,hlen⟩ := row_of_owns hown
      obtain ⟨n,HN⟩ : ∃ n : Nat,Hid (out.length = n) := ⟨_,rfl⟩
      have HEND := Lib.hid (spl_end HPRE.out HD.out HI.out (by omega) hol)
      have hn0 : 0 < n := by
       rw [<- HN.out]
       have h := HI.out.2.2.2 (by omega)
       rcases Nat.eq_zero_or_pos out.length with e | e
       ·rw [List.eq_nil_of_length_eq_zero e] at h
        exact absurd h (splitL_ne _ _)
       ·exact e
      obtain ⟨b,off,rfl,hbx⟩ := hrow (by rw [List.length_map,HN.out];exact hn0)
      have HROW := Lib.hid hrow
      have HFR := Lib.hid hfr
      rw [HN.out] at hnc hol ⊢
      clear hbx hrow hfr hown hlen
      go_wp2_with fail
      go_loopw [7] (fun i wr2 => ∃ j : Nat,j <= n ∧ i = .int .i64 j ∧ wr2 = wr ∧ Hid ((out.take j).all rightS = true)) (fun i _ => n - (intOf i).toNat)
      case atStart => exact ⟨0,Nat.zero_le _,rfl,rfl,rfl⟩
      case round =>
       obtain ⟨j,hj,rfl,rfl,HP⟩ := hrel
       by_cases hlt : j < n
       ·have hj' : j < out.length := by rw [HN.out];exact hlt
        obtain ⟨b',off',e',hb',hc⟩ := HROW.out.get (k := j) (u := .string out[j]) (by rw [List.getElem?_map,List.getElem?_eq_getElem hj'];rfl)
        cases e'
        have HAL : Hid ((out.take (j + 1)).all rightS = ((out.take j).all rightS && rightS out[j])) := by
         rw [Hid,List.take_succ_eq_append_getElem hj',List.all_append];simp
        have HM : Hid (out.all rightS = true -> rightS out[j] = true) := fun h => List.all_eq_true.1 h _ (List.getElem_mem hj')
        have hxs : out[j].size <= maxLen := by
         have hm : bytesOf out[j] ∈ splitL 47 ((bytesOf s).drop 1) := by rw [HI.out.2.2.2 (by omega)];exact List.mem_map_of_mem (List.getElem_mem hj')
         have := splitL_length _ hm
         rw [size_bytesOf,List.length_drop,size_bytesOf] at this
         unfold maxLen;omega
        generalize out[j] = x at hc HAL HM hxs
        have HXS := Lib.hid hxs
        clear hxs
        cases hr : rightS x
        ·have HF : Hid (readP (bytesOf s) = (160,[])) := by
          have : out.all rightS = false := by rw [Bool.eq_false_iff];intro h;rw [HM.out h] at hr;cases hr
          rw [Hid,HEND.out,this,if_neg (by decide)]
         have HRT : Hid (rightB x.data.toList = false) := hr
         clear hr
         go_wp2_with (go_at_call 68;refine (refRight_any _ _ HXS.out).mono ?_;rintro e w' ⟨rfl,rfl⟩;rw [HRT.out])
         go_ret2
         exact ⟨.slice none 0 0,by rw [HF.out];rfl,by rw [HF.out];exact pathAt_nil _,HB.out,fresh_nil _ _ _⟩
        ·have HRT : Hid (rightB x.data.toList = true) := hr
         clear hr
         go_wp2_with (go_at_call 68;refine (refRight_any _ _ HXS.out).mono ?_;rintro e w' ⟨rfl,rfl⟩;rw [HRT.out])
         go_roundw
         case rel => exact ⟨j + 1,by omega,by go_num,by first | rfl | trivial,by rw [Hid,HAL.out,HP.out];exact HRT.out⟩
         case measure => simp [intOf];omega
       ·have HF : Hid (readP (bytesOf s) = (0,out.map bytesOf)) := by
         have h := HP.out
         rw [List.take_of_length_le (by rw [HN.out];omega)] at h
         rw [Hid,HEND.out,h,if_pos rfl]
        go_wp2_with fail
        go_ret2
        refine ⟨.slice (some ⟨b,off,none⟩) n c,by rw [HF.out];rfl,?_,HB.out,fun A' n' c' e ad ha => by cases e;cases ha;exact HFR.out _ rfl⟩
        rw [HF.out]
        refine ⟨_,c,by rw [List.length_map,HN.out],by rw [List.length_map,HN.out];exact hnc,hcm,?_⟩
        rw [List.map_map]
        exact HROW.out
   ·have HF : Hid (readP (bytesOf s) = (170,[])) := by
     rw [Hid,readP,if_neg]
     rw [hcons];simp [Lib.hasPrefix];exact fun e => h3 e.symm
    have h3' : ((s[0].toNat : Int) != 47) = true := by
     rw [bne_iff_ne];intro e;exact h3 (UInt8.toNat_inj.1 (by have : (47 : UInt8).toNat = 47 := rfl;omega))
    clear h1 h2 hcons h3
    go_enter Tryz.func38,Tryz.ntmps38
    go_wp2_with fail
    go_ret2
    exact ⟨.slice none 0 0,by rw [HF.out];rfl,by rw [HF.out];exact pathAt_nil _,Below.refl _ _,fresh_nil _ _ _⟩
end
section
open Go.RowKit
variable {FA : Option Addr} {nf cf : Nat} {fed : List Nat}
theorem okSt0 (fed : List Nat) : OkSt fed ([],false) := ⟨by simp,fun _ => by simp⟩
theorem rfAt_new (W : World) (T : TypeId) (hfl : fed.length = nf) (hrow : RowAt W FA (fed.map encW)) : RfAt W.heap.size FA nf cf fed ([],false) (W.alloc (.cells #[.slice FA nf cf,.slice none 0 0,.bool false] T)) := by
 refine ⟨⟨by simp,cell_new W _ _ 0 _ rfl,hfl,hrow.alloc _,fun hp b off e => ?_,⟨.slice none 0 0,cell_new W _ _ 1 _ rfl,World.ownsRow_nil _ _ _ _⟩,?_⟩,cell_new W _ _ 2 _ rfl,?_⟩
 ·obtain ⟨b',off',e',hb',_⟩ := hrow (by rw [List.length_map];exact hp)
  rw [e] at e'
  cases e'
  exact hb'
 ·exact (World.frozen?_of_block (w := W.alloc (.cells #[.slice FA nf cf,.slice none 0 0,.bool false] T)) rfl).trans (by simp)
 ·exact (World.frozen?_of_block (w := W.alloc (.cells #[.slice FA nf cf,.slice none 0 0,.bool false] T)) rfl).trans (by simp)
theorem owns_slice' {w : World} {base : Nat} {e : TypeId} {size : Nat} {v : Value} {n : Nat} {xs : List Value} (h : w.ownsRow base e size v n xs) : ∃ A c,v = .slice A n c ∧ n <= c ∧ c <= maxLen ∧ (A = none ∨ ∃ b off,A = some ⟨b,off,none⟩) := by
 rcases h.2 with ⟨h1,h2⟩ | ⟨g,cap,cur,h1,_,_,h2,h3,_⟩
 ·exact ⟨none,0,by rw [h1,h2],by omega,by simp [maxLen],.inl rfl⟩
 ·exact ⟨_,_,h1,h2,h3,.inr ⟨g,0,rfl⟩⟩
end
end Go.Proofs.YtdpooagnbmpinaaGreatDoor
