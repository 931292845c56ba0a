import Derived.Test.YtdpooagnbmpinaaGreatDoorZPC
import Derived.Test.YtdpooagnbmpinaaGreatDoorZM4
import Derived.Test.YtdpooagnbmpinaaGreatDoorZKB
namespace Go.Proofs.YtdpooagnbmpinaaGreatDoor
section
open Go.RowKit
theorem less_cmp : ∀ a b : List UInt8,Op.bytesLess a b = decide (Lib.compareBytes a b < 0)
 | [],[] => rfl
 | [],_ :: _ => rfl
 | _ :: _,[] => by simp [Op.bytesLess,Lib.compareBytes]
 | a :: s,b :: t => by
  rw [Op.bytesLess,Lib.compareBytes]
  by_cases h1 : a < b
  ·simp [h1]
  ·by_cases h2 : b < a
   ·have : a ≠ b := by rintro rfl;exact u8_lt_irrefl _ h2
    simp [h1,h2,this]
   ·have : a = b := u8_tri a b h1 h2
    simp [h1,h2,this,less_cmp s t]
theorem stand (y x : List UInt8) : (Op.bytesLess (ofBytes y).toList (ofBytes x).toList = true ∧ ((ofBytes y).toList == (ofBytes x).toList) = false ∧ ¬ Lib.compareBytes x y < 0 ∧ y ≠ x) ∨ (Op.bytesLess (ofBytes y).toList (ofBytes x).toList = false ∧ ((ofBytes y).toList == (ofBytes x).toList) = true ∧ ¬ Lib.compareBytes x y < 0 ∧ y = x) ∨ (Op.bytesLess (ofBytes y).toList (ofBytes x).toList = false ∧ ((ofBytes y).toList == (ofBytes x).toList) = false ∧ Lib.compareBytes x y < 0) := by
 rw [ByteArray.toList_eq,ByteArray.toList_eq,less_cmp]
 show (decide (Lib.compareBytes y x < 0) = true ∧ (y == x) = false ∧ _) ∨ (decide (Lib.compareBytes y x < 0) = false ∧ (y == x) = true ∧ _) ∨ (decide (Lib.compareBytes y x < 0) = false ∧ (y == x) = false ∧ _)
 have hsw := cmp_swap x y
 rcases cmp_range x y with h | h | h
 ·have hne : y ≠ x := by rintro rfl;rw [cmp_self] at h;omega
  exact .inr (.inr ⟨decide_eq_false (by omega),by rw [beq_eq_false_iff_ne];exact hne,h⟩)
 ·subst h
  rw [cmp_self]
  exact .inr (.inl ⟨rfl,by simp,by omega,rfl⟩)
 ·have hne : y ≠ x := by rintro rfl;rw [cmp_self] at h;omega
  exact .inl ⟨decide_eq_true h,by rw [beq_eq_false_iff_ne];exact hne,by omega,hne⟩
theorem own_cases {w : World} {base : Nat} {e : TypeId} {v : Value} {m : Nat} {xs : List Value} (h : w.ownsRow base e 1 v m xs) : (v = .slice none 0 0 ∧ m = 0) ∨ ∃ g cap,v = .slice (some ⟨g,0,none⟩) m cap ∧ m <= cap ∧ cap <= maxLen := by
 rcases h.2 with ⟨h0,h1⟩ | ⟨g,cap,cur,hv,_⟩
 ·exact .inl ⟨by first | exact h1 | exact h0,by first | exact h0 | exact h1⟩
 ·obtain ⟨A',c',e,h1,h2⟩ := owns_slice h
  rw [hv] at e
  injection e with e1 e2 e3
  subst e3
  exact .inr ⟨g,cap,hv,h1,h2⟩
theorem own_form {w : World} {base : Nat} {e : TypeId} {v : Value} {m : Nat} {xs : List Value} (h : w.ownsRow base e 1 v m xs) : ∃ A cap,v = .slice A m cap ∧ m <= cap ∧ cap <= maxLen ∧ ((A = none ∧ m = 0 ∧ cap = 0) ∨ ∃ g,A = some ⟨g,0,none⟩) := by
 rcases own_cases h with ⟨e1,e2⟩ | ⟨g,cap,e1,e2,e3⟩
 ·exact ⟨none,0,by rw [e1,e2],by omega,by omega,.inl ⟨rfl,e2,rfl⟩⟩
 ·exact ⟨_,cap,e1,e2,e3,.inr ⟨g,rfl⟩⟩
theorem row_one (W : World) (x : List UInt8) (t : TypeId) : RowAt (W.alloc (.cells #[encT x] t)) (some ⟨W.heap.size,0,none⟩) [encT x] :=
 row_of_own (World.ownsRow_lit W #[encT x] 1 (Nat.le_refl _) (by simp [maxLen]) (by simp))
theorem row_one_grown {W w2 : World} {x : List UInt8} {t : TypeId} (hg : (W.alloc (.cells #[encT x] t)).grownBy w2 none) : RowAt w2 (some ⟨W.heap.size,0,none⟩) [encT x] :=
 (row_one W x t).below ((Below.refl _ _).grown hg (Nat.le_refl _) (fun _ e => by cases e))
theorem row_one_drew {W w2 : World} {x : List UInt8} {t : TypeId} (hg : (W.alloc (.cells #[encT x] t)).drew.grownBy w2 none) : RowAt w2 (some ⟨W.heap.size,0,none⟩) [encT x] :=
 (row_one W x t).below ((Below.refl _ _).drew.grown hg (Nat.le_refl _) (fun _ e => by cases e))
theorem take_row {w : World} {g k : Nat} {xs : List Value} (h : RowAt w (some ⟨g,0,none⟩) xs) : RowAt w (some ⟨g,0,none⟩) (xs.take k) := fun hn => by
 obtain ⟨b,off,e,h1,h2⟩ := h (by have := List.length_take_le k xs;rw [List.length_take] at hn this;omega)
 exact ⟨b,off,e,h1,fun j u hu => h2 j u (by
  rw [List.getElem?_take] at hu
  split at hu
  ·exact hu
  ·cases hu)⟩
theorem drop_row {w : World} {g k : Nat} {xs : List Value} (h : RowAt w (some ⟨g,0,none⟩) xs) : RowAt w (some ⟨g,k,none⟩) (xs.drop k) := fun hn => by
 obtain ⟨b,off,e,h1,h2⟩ := h (by rw [List.length_drop] at hn;omega)
 cases e
 exact ⟨g,k,rfl,h1,fun j u hu => by
  have := h2 (k + j) u (by rwa [List.getElem?_drop] at hu)
  rwa [Nat.zero_add] at this⟩
theorem step_from {P : Program} (wo w : World) {ops : Array Oper} {o : Oper} {a : Act} {K : Act -> World -> Prop} {Q : Exit -> Act -> World -> Prop} {E : Prop} (hgd : Region.wanted o (yielded ops a.tmps) = true) (s x : Operand) (t : TypeId)
  (ho : o.op = .call { callee := .builtin .append,args := #[s,x],argTypes := #[t,t] })
  (e : TypeId) (i : TypeInfo) (z : Value) (bytes : Nat) (ht : P.underlying t = some (.slice e)) (hi : P.info? e = some i) (hz : i.zero = some z)
  (hsize : i.size = 1) (hby : i.bytes = bytes) (hzs : z.cells.size = 1)
  {v : Value} (n : Nat) (xs : List Value) (hown : w.ownsRow wo.heap.size e 1 v n xs) (hs : a.eval s = v)
  {A : Option Addr} {c : Nat} (m : Nat) (news : List Value) (hr : RowAt w A news) (hx : a.eval x = .slice A m c) (hl : news.length = m) (h1 : ∀ u ∈ news,u.oneCell' = true)
  (h63 : n + m <= maxLen) (hbytes : (n + m) * bytes <= 140737488355328) (hB : Below wo.heap.size wo w)
  (h : ∀ v' w',w'.ownsRow wo.heap.size e 1 v' (n + m) (xs ++ news) -> Below wo.heap.size wo w' -> w.grownBy w' v.ownBlock -> K (a.put o.dst v') w') : if Region.wanted o (yielded ops a.tmps) = true then Oper.wp P o a w K Q else E :=
 step_append_row w hgd s x t ho wo.heap.size e i z bytes ht hi hz hsize hby hzs v n xs hs hown A m c news hx hl hr h1 h63 hbytes hB.size fun v' w' ho' hg =>
  h v' w' ho' (hB.grown hg hB.size fun r er => (hown.lt r er).1) hg
set_option maxRecDepth 200000 in
set_option maxHeartbeats 8000000 in
theorem refSorted_at (xs : List (List UInt8)) (A : Option Addr) (n c : Nat) (w : World) (hn : xs.length = n) (hm : n <= 10000) (h : RowAt w A (xs.map encT)) :
  Calls Tryz.prog 74 #[.slice A n c] w fun e w' => ∃ A' c' m,e = .returned (.slice A' m c') ∧ (sortL xs).length = m ∧ m <= c' ∧ c' <= maxLen ∧ Hid (RowAt w' A' ((sortL xs).map encT)) ∧ Below w.heap.size w w' ∧ (∀ ad,A' = some ad -> w.heap.size <= ad.block) := by
 obtain ⟨i0,hi,hz0,hz1,hz2⟩ := info_parts Tryz.infoStr
 have HN := Lib.hid hn
 have HR := Lib.hid h
 clear h hn
 go_enter Tryz.func74,Tryz.ntmps74
 go_wp2_with fail
 go_loopw [3,4] (fun v i wr => ∃ j m : Nat,j <= n ∧ i = .int .i64 j ∧ Hid ((sortL (xs.take j)).length = m) ∧ wr.ownsRow w.heap.size 9 1 v m ((sortL (xs.take j)).map encT) ∧ Below w.heap.size w wr) (fun _ i _ => n - (intOf i).toNat)
 case atStart => exact ⟨0,0,Nat.zero_le _,rfl,Lib.hid rfl,World.ownsRow_nil _ _ _ _,Below.refl _ _⟩
 case round =>
  obtain ⟨j,m,hj,rfl,HML,hown,hb⟩ := hrel
  obtain ⟨wo,rfl⟩ : ∃ wo,wo = wr := ⟨_,rfl⟩
  by_cases hlt : j < n
  ·have hjl : j < xs.length := by rw [HN.out];exact hlt
   obtain ⟨b,off,rfl,hbw,hcb⟩ := HR.out.get (k := j) (u := encT xs[j]) (by rw [List.getElem?_map,List.getElem?_eq_getElem hjl];rfl)
   have HST := Lib.hid (sortL_take hjl)
   have hm2 : m <= n := by have := length_sortL (xs.take j);rw [HML.out,List.length_take] at this;omega
   generalize xs[j] = x at hcb HST
   have HCB : Hid (∀ W,Below wo.heap.size wo W -> W.cell? ⟨b,off + j,none⟩ = some (.string (ofBytes x))) := fun W hW => (hW.cell (p := ⟨b,off + j,none⟩) (Nat.lt_of_lt_of_le hbw hb.size)).trans ((hb.cell (p := ⟨b,off + j,none⟩) hbw).trans hcb)
   generalize sortL (xs.take j) = o at *
   have HOWN := Lib.hid hown
   have HB := Lib.hid hb
   clear hown hb hcb
   obtain ⟨A,cap,rfl,hmc,hcm,ha⟩ := own_form HOWN.out
   have HA := Lib.hid ha
   clear ha
   have HG : Hid (∀ W,Below wo.heap.size wo W -> RowAt W A (o.map encT)) := fun W hW => row_of_own (owns_below HOWN.out hW)
   go_wp2_with fail
   go_loopw [5,6] (fun i t wr2 => ∃ (k : Nat) (tb : Bool),k <= m ∧ i = .int .i64 k ∧ t = .bool tb ∧ Hid (∀ y ∈ o.take k,0 <= Lib.compareBytes x y) ∧ Hid (tb = decide (x ∈ o.take k)) ∧ Below wo.heap.size wo wr2) (fun i _ _ => m - (intOf i).toNat)
   case atStart => exact ⟨0,false,Nat.zero_le _,rfl,rfl,Lib.hid (by simp),Lib.hid (by simp),Below.refl _ _⟩
   case round =>
    obtain ⟨k,tb,hk,rfl,rfl,HLE,HTB,hb2⟩ := hrel
    have hcx := HCB.out _ hb2.drew
    have HB2 := Lib.hid hb2
    clear hb2
    by_cases hkm : k < m
    ·have hko : k < o.length := by rw [HML.out];exact hkm
     obtain ⟨g,rfl⟩ : ∃ g,A = some ⟨g,0,none⟩ := HA.out.elim (fun h => by omega) id
     have HCY : Hid (∀ W,Below wo.heap.size wo W -> W.cell? ⟨g,k,none⟩ = some (.string (ofBytes o[k]))) := fun W hW => by
      obtain ⟨g',off',e',_,hgc⟩ := HG.out W hW (by rw [List.length_map];omega)
      cases e'
      have := hgc k (encT o[k]) (by rw [List.getElem?_map,List.getElem?_eq_getElem hko];rfl)
      rwa [Nat.zero_add] at this
     have hcy := HCY.out _ HB2.out.drew
     have HTK := Lib.hid (take_more hko)
     have HKY : Hid (∀ z,o[k]? = some z -> z = o[k]) := fun z hz => by rw [List.getElem?_eq_getElem hko] at hz;cases hz;rfl
     have hst := stand o[k] x
     generalize o[k] = y at hcy HCY HTK HKY hst
     rcases hst with ⟨l1,l2,l3,l4⟩ | ⟨l1,l2,l3,l4⟩ | ⟨l1,l2,l3⟩
     ·have HLE' : Hid (∀ z ∈ o.take (k + 1),0 <= Lib.compareBytes x z) := fun z hz => by
       rw [HTK.out] at hz
       rcases List.mem_append.1 hz with h | h
       ·exact HLE.out z h
       ·rw [List.mem_singleton.1 h];exact Int.not_lt.1 l3
      have HTB' : Hid (tb = decide (x ∈ o.take (k + 1))) := by
       rw [Hid,HTK.out,HTB.out]
       exact decide_eq_decide.2 (by rw [List.mem_append,List.mem_singleton];exact ⟨.inl,fun h => h.elim id fun e => (l4 e.symm).elim⟩)
      clear l3 l4 HTB HLE HKY HTK
      cases tb
      all_goals
       go_wp2_with fail
       refine box_tail 14 (by kernel_rfl) (by kernel_rfl) ?_
       simp only [List.take_succ_cons,List.take_zero,List.drop_succ_cons,List.drop_zero]
       iterate 14
        refine box_step (fun K hK => ?_)
        go_simp
        refine hK _ ?_
        clear hK K
       refine ⟨wpStill_nil ?_⟩
       go_wp2_with fail
       obtain ⟨wd,hwd⟩ : ∃ wd,wr.drew = wd := ⟨_,rfl⟩
       have HB3 : Hid (Below wo.heap.size wo wd) := hwd ▸ HB2.out.drew
       rw [hwd]
       clear hwd hcx hcy
       have hcx := HCB.out _ HB3.out.drew
       have hcy := HCY.out _ HB3.out.drew
       refine box_region (by kernel_rfl) (by kernel_rfl) ?_
       iterate 13
        refine box_step (fun K hK => ?_)
        go_simp
        refine hK _ ?_
        clear hK K
       refine ⟨wpStill_nil ?_⟩
       go_wp2_with fail
       exact ⟨⟨k + 1,_,by omega,by go_num,rfl,HLE',HTB',HB3.out.drew⟩,by simp [intOf];omega⟩
     ·have HLE' : Hid (∀ z ∈ o.take (k + 1),0 <= Lib.compareBytes x z) := fun z hz => by
       rw [HTK.out] at hz
       rcases List.mem_append.1 hz with h | h
       ·exact HLE.out z h
       ·rw [List.mem_singleton.1 h];exact Int.not_lt.1 l3
      have HTB' : Hid (true = decide (x ∈ o.take (k + 1))) := by
       rw [Hid,HTK.out]
       exact (decide_eq_true (List.mem_append.2 (.inr (List.mem_singleton.2 l4.symm)))).symm
      clear l3 l4 HTB HLE HKY HTK
      cases tb
      all_goals
       go_wp2_with fail
       refine box_tail 14 (by kernel_rfl) (by kernel_rfl) ?_
       simp only [List.take_succ_cons,List.take_zero,List.drop_succ_cons,List.drop_zero]
       iterate 14
        refine box_step (fun K hK => ?_)
        go_simp
        refine hK _ ?_
        clear hK K
       refine ⟨wpStill_nil ?_⟩
       go_wp2_with fail
       obtain ⟨wd,hwd⟩ : ∃ wd,wr.drew = wd := ⟨_,rfl⟩
       have HB3 : Hid (Below wo.heap.size wo wd) := hwd ▸ HB2.out.drew
       rw [hwd]
       clear hwd hcx hcy
       have hcx := HCB.out _ HB3.out.drew
       have hcy := HCY.out _ HB3.out.drew
       refine box_region (by kernel_rfl) (by kernel_rfl) ?_
       iterate 13
        refine box_step (fun K hK => ?_)
        go_simp
        refine hK _ ?_
        clear hK K
       refine ⟨wpStill_nil ?_⟩
       go_wp2_with fail
       exact ⟨⟨k + 1,_,by omega,by go_num,rfl,HLE',HTB',HB3.out.drew⟩,by simp [intOf];omega⟩
     ·have HQ : Hid (∀ z,o[k]? = some z -> Lib.compareBytes x z < 0) := fun z hz => by rw [HKY.out z hz];exact l3
      clear l3 HTK HKY
      cases tb
      ·clear HCY
       go_wp2_with fail
       refine box_tail 14 (by kernel_rfl) (by kernel_rfl) ?_
       simp only [List.take_succ_cons,List.take_zero,List.drop_succ_cons,List.drop_zero]
       iterate 14
        refine box_step (fun K hK => ?_)
        go_simp
        refine hK _ ?_
        clear hK K
       refine ⟨wpStill_nil ?_⟩
       go_wp2_with fail
       clear hcy
       obtain ⟨wd,hwd⟩ : ∃ wd,wr.drew = wd := ⟨_,rfl⟩
       have HB3 : Hid (Below wo.heap.size wo wd) := hwd ▸ HB2.out.drew
       rw [hwd]
       clear hwd hcx
       have hcx := HCB.out _ HB3.out.drew
       have HS : Hid (∀ W,Below wo.heap.size wo W -> Below wo.heap.size wo W ∧ W.cell? ⟨b,off + j,none⟩ = some (.string (ofBytes x))) := fun W hW => ⟨hW,HCB.out W hW⟩
       have H1 : Hid (∀ l : List (List UInt8),∀ u ∈ l.map encT,u.oneCell' = true) := fun l u hu => by
        obtain ⟨z,_,rfl⟩ := List.mem_map.1 hu;rfl
       have HT : Hid (∀ W,Below wo.heap.size wo W -> RowAt W (some ⟨g,0,none⟩) ((o.take k).map encT)) := fun W hW => by rw [List.map_take];exact take_row (HG.out W hW)
       have HD : Hid (∀ W,Below wo.heap.size wo W -> RowAt W (if cap = k then some ⟨g,0,none⟩ else some ⟨g,k,none⟩) ((o.drop k).map encT)) := fun W hW => by
        split
        ·exact fun hn => absurd hn (by rw [List.length_map,List.length_drop,HML.out];omega)
        ·rw [List.map_drop];exact drop_row (HG.out W hW)
       have HTL : Hid (((o.take k).map encT).length = k) := by rw [Hid,List.length_map,List.length_take,HML.out];omega
       have HDL : Hid (((o.drop k).map encT).length = m - k) := by rw [Hid,List.length_map,List.length_drop,HML.out]
       have HIN : Hid (insL x o = o.take k ++ [x] ++ o.drop k) := ins_at (fun z hz => Int.not_lt.2 (HLE.out z hz)) HQ.out (of_decide_eq_false HTB.out.symm)
       have HM' : Hid ((sortL (xs.take (j + 1))).length = m + 1) := by
        rw [Hid,HST.out,HIN.out,List.length_append,List.length_append,List.length_take,List.length_drop,HML.out,List.length_singleton]
        omega
       have HF : Hid (∀ (W : World) (v : Value),W.ownsRow wo.heap.size 9 1 v (0 + k + 1 + (m - k)) ([] ++ (o.take k).map encT ++ [encT x] ++ (o.drop k).map encT) -> W.ownsRow w.heap.size 9 1 v (m + 1) ((sortL (xs.take (j + 1))).map encT)) := fun W v hv => by
        rw [HST.out,HIN.out,List.map_append,List.map_append]
        rw [show 0 + k + 1 + (m - k) = m + 1 by omega] at hv
        exact owns_base hv HB.out.size
       have hb4 := HB3.out.drew
       have hkz : (0 : Int) <= (k : Int) := Int.natCast_nonneg _
       have hkm' : (k : Int) <= (m : Int) := by omega
       have hmc' : (m : Int) <= (cap : Int) := by omega
       have hkc' : (k : Int) <= (cap : Int) := by omega
       go_region_held3 (fun w1 => Below wo.heap.size wo w1 ∧ w1.cell? ⟨b,off + j,none⟩ = some (.string (ofBytes x))) (first | exact HS.out _ (by assumption) | exact HS.out _ (Below.alloc (by assumption) (Below.size (show Below wo.heap.size wo _ by assumption)) _)) (first
        | refine step_from wo _ rfl (.const (.slice none 0 0)) (.tmp 46) 31 rfl 9 i0 (.string ⟨#[]⟩) 16 Tryz.underlying31 hi hz0 hz1 hz2 (by rfl) 0 [] (World.ownsRow_nil _ _ _ _) (by rfl) k ((o.take k).map encT) (HT.out _ (by first | assumption | exact (show Below wo.heap.size wo _ ∧ _ from by assumption).1)) (by rfl) HTL.out (H1.out _) (by unfold maxLen;omega) (by omega) (by first | assumption | exact (show Below wo.heap.size wo _ ∧ _ from by assumption).1) (fun v1 w1 hown1 hb1 hgr1 => ?_)
        | refine step_from wo _ rfl (.tmp 47) (.tmp 52) 31 rfl 9 i0 (.string ⟨#[]⟩) 16 Tryz.underlying31 hi hz0 hz1 hz2 (by rfl) (0 + k) ([] ++ (o.take k).map encT) (by first | assumption | exact World.ownsRow.alloc (by assumption) _) (by rfl) 1 [encT x] (by first | exact row_one _ _ _ | exact row_one_grown (by assumption) | exact row_one_drew (by assumption)) (by rfl) (by rfl) (H1.out [x]) (by unfold maxLen;omega) (by omega) (by first | assumption | exact Below.alloc (by assumption) (Below.size (show Below wo.heap.size wo _ by assumption)) _) (fun v1 w1 hown1 hb1 hgr1 => ?_)
        | refine step_from wo _ rfl (.tmp 53) (.tmp 56) 31 rfl 9 i0 (.string ⟨#[]⟩) 16 Tryz.underlying31 hi hz0 hz1 hz2 (by rfl) (0 + k + 1) ([] ++ (o.take k).map encT ++ [encT x]) (by assumption) (by rfl) (m - k) ((o.drop k).map encT) (HD.out _ (by assumption)) (by rfl) HDL.out (H1.out _) (by unfold maxLen;omega) (by omega) (by assumption) (fun v1 w1 hown1 hb1 hgr1 => ?_))
       all_goals
        have HO' := Lib.hid (HF.out _ _ hown1)
        have HB' : Hid (Below w.heap.size w w1) := below_trans HB.out hb1
        clear hown1 hb1 hgr1 HF HS H1 HT HD HTL HDL HIN hb4
        go_wp2_with fail
        exact ⟨⟨j + 1,m + 1,by omega,by go_num,HM',HO'.out,HB'.out⟩,by simp [intOf];omega⟩
      ·clear HCY HQ
       go_wp2_with fail
       refine box_tail 14 (by kernel_rfl) (by kernel_rfl) ?_
       simp only [List.take_succ_cons,List.take_zero,List.drop_succ_cons,List.drop_zero]
       iterate 14
        refine box_step (fun K hK => ?_)
        go_simp
        refine hK _ ?_
        clear hK K
       refine ⟨wpStill_nil ?_⟩
       go_wp2_with fail
       have HIN : Hid (insL x o = o) := ins_in (fun z hz => Int.not_lt.2 (HLE.out z hz)) (of_decide_eq_true HTB.out.symm)
       have HM' : Hid ((sortL (xs.take (j + 1))).length = m) := by rw [Hid,HST.out,HIN.out,HML.out]
       have HO' : Hid (wr.drew.ownsRow w.heap.size 9 1 (.slice (some ⟨g,0,none⟩) m cap) m ((sortL (xs.take (j + 1))).map encT)) := by rw [Hid,HST.out,HIN.out];exact owns_below HOWN.out HB2.out.drew
       have HB' : Hid (Below w.heap.size w wr.drew) := below_trans HB.out HB2.out.drew
       clear HIN
       exact ⟨⟨j + 1,m,by omega,by go_num,HM',HO'.out,HB'.out⟩,by simp [intOf];omega⟩
    ·obtain rfl : m = k := by omega
     have HQ : Hid (∀ z,o[m]? = some z -> Lib.compareBytes x z < 0) := fun z hz => by rw [List.getElem?_eq_none (by rw [HML.out];exact Nat.le_refl _)] at hz;cases hz
     rcases HA.out with ⟨rfl,rfl,rfl⟩ | ⟨g,rfl⟩
     ·cases tb
      ·go_wp2_with fail
       refine box_tail 14 (by kernel_rfl) (by kernel_rfl) ?_
       simp only [List.take_succ_cons,List.take_zero,List.drop_succ_cons,List.drop_zero]
       iterate 14
        refine box_step (fun K hK => ?_)
        go_simp
        refine hK _ ?_
        clear hK K
       refine ⟨wpStill_nil ?_⟩
       go_wp2_with fail
       obtain ⟨wd,hwd⟩ : ∃ wd,wr.drew = wd := ⟨_,rfl⟩
       have HB3 : Hid (Below wo.heap.size wo wd) := hwd ▸ HB2.out.drew
       rw [hwd]
       clear hwd hcx
       have hcx := HCB.out _ HB3.out.drew
       have HS : Hid (∀ W,Below wo.heap.size wo W -> Below wo.heap.size wo W ∧ W.cell? ⟨b,off + j,none⟩ = some (.string (ofBytes x))) := fun W hW => ⟨hW,HCB.out W hW⟩
       have H1 : Hid (∀ l : List (List UInt8),∀ u ∈ l.map encT,u.oneCell' = true) := fun l u hu => by
        obtain ⟨z,_,rfl⟩ := List.mem_map.1 hu;rfl
       have HT : Hid (∀ W,Below wo.heap.size wo W -> RowAt W none ((o.take 0).map encT)) := fun W hW hn => absurd hn (by simp)
       have HD : Hid (∀ W,Below wo.heap.size wo W -> RowAt W none ((o.drop 0).map encT)) := fun W hW hn => absurd hn (by rw [List.length_map,List.length_drop,HML.out];omega)
       have HTL : Hid (((o.take 0).map encT).length = 0) := by rw [Hid,List.length_map,List.length_take,HML.out];omega
       have HDL : Hid (((o.drop 0).map encT).length = 0 - 0) := by rw [Hid,List.length_map,List.length_drop,HML.out]
       have HIN : Hid (insL x o = o.take 0 ++ [x] ++ o.drop 0) := ins_at (fun z hz => Int.not_lt.2 (HLE.out z hz)) HQ.out (of_decide_eq_false HTB.out.symm)
       have HM' : Hid ((sortL (xs.take (j + 1))).length = 0 + 1) := by
        rw [Hid,HST.out,HIN.out,List.length_append,List.length_append,List.length_take,List.length_drop,HML.out,List.length_singleton]
        omega
       have HF : Hid (∀ (W : World) (v : Value),W.ownsRow wo.heap.size 9 1 v (0 + 0 + 1 + (0 - 0)) ([] ++ (o.take 0).map encT ++ [encT x] ++ (o.drop 0).map encT) -> W.ownsRow w.heap.size 9 1 v (0 + 1) ((sortL (xs.take (j + 1))).map encT)) := fun W v hv => by
        rw [HST.out,HIN.out,List.map_append,List.map_append]
        rw [show 0 + 0 + 1 + (0 - 0) = 0 + 1 by omega] at hv
        exact owns_base hv HB.out.size
       have hb4 := HB3.out.drew
       go_region_held3 (fun w1 => Below wo.heap.size wo w1 ∧ w1.cell? ⟨b,off + j,none⟩ = some (.string (ofBytes x))) (first | exact HS.out _ (by assumption) | exact HS.out _ (Below.alloc (by assumption) (Below.size (show Below wo.heap.size wo _ by assumption)) _)) (first
        | refine step_from wo _ rfl (.const (.slice none 0 0)) (.tmp 46) 31 rfl 9 i0 (.string ⟨#[]⟩) 16 Tryz.underlying31 hi hz0 hz1 hz2 (by rfl) 0 [] (World.ownsRow_nil _ _ _ _) (by rfl) 0 ((o.take 0).map encT) (HT.out _ (by first | assumption | exact (show Below wo.heap.size wo _ ∧ _ from by assumption).1)) (by rfl) HTL.out (H1.out _) (by unfold maxLen;omega) (by omega) (by first | assumption | exact (show Below wo.heap.size wo _ ∧ _ from by assumption).1) (fun v1 w1 hown1 hb1 hgr1 => ?_)
        | refine step_from wo _ rfl (.tmp 47) (.tmp 52) 31 rfl 9 i0 (.string ⟨#[]⟩) 16 Tryz.underlying31 hi hz0 hz1 hz2 (by rfl) (0 + 0) ([] ++ (o.take 0).map encT) (by first | assumption | exact World.ownsRow.alloc (by assumption) _) (by rfl) 1 [encT x] (by first | exact row_one _ _ _ | exact row_one_grown (by assumption) | exact row_one_drew (by assumption)) (by rfl) (by rfl) (H1.out [x]) (by unfold maxLen;omega) (by omega) (by first | assumption | exact Below.alloc (by assumption) (Below.size (show Below wo.heap.size wo _ by assumption)) _) (fun v1 w1 hown1 hb1 hgr1 => ?_)
        | refine step_from wo _ rfl (.tmp 53) (.tmp 56) 31 rfl 9 i0 (.string ⟨#[]⟩) 16 Tryz.underlying31 hi hz0 hz1 hz2 (by rfl) (0 + 0 + 1) ([] ++ (o.take 0).map encT ++ [encT x]) (by assumption) (by rfl) (0 - 0) ((o.drop 0).map encT) (HD.out _ (by assumption)) (by rfl) HDL.out (H1.out _) (by unfold maxLen;omega) (by omega) (by assumption) (fun v1 w1 hown1 hb1 hgr1 => ?_))
       all_goals
        have HO' := Lib.hid (HF.out _ _ hown1)
        have HB' : Hid (Below w.heap.size w w1) := below_trans HB.out hb1
        clear hown1 hb1 hgr1 HF HS H1 HT HD HTL HDL HIN hb4
        go_wp2_with fail
        exact ⟨⟨j + 1,0 + 1,by omega,by go_num,HM',HO'.out,HB'.out⟩,by simp [intOf];omega⟩
      ·go_wp2_with fail
       refine box_tail 14 (by kernel_rfl) (by kernel_rfl) ?_
       simp only [List.take_succ_cons,List.take_zero,List.drop_succ_cons,List.drop_zero]
       iterate 14
        refine box_step (fun K hK => ?_)
        go_simp
        refine hK _ ?_
        clear hK K
       refine ⟨wpStill_nil ?_⟩
       go_wp2_with fail
       have HIN : Hid (insL x o = o) := ins_in (fun z hz => Int.not_lt.2 (HLE.out z hz)) (of_decide_eq_true HTB.out.symm)
       have HM' : Hid ((sortL (xs.take (j + 1))).length = 0) := by rw [Hid,HST.out,HIN.out,HML.out]
       have HO' : Hid (wr.drew.ownsRow w.heap.size 9 1 (.slice none 0 0) 0 ((sortL (xs.take (j + 1))).map encT)) := by rw [Hid,HST.out,HIN.out];exact owns_below HOWN.out HB2.out.drew
       have HB' : Hid (Below w.heap.size w wr.drew) := below_trans HB.out HB2.out.drew
       clear HIN
       exact ⟨⟨j + 1,0,by omega,by go_num,HM',HO'.out,HB'.out⟩,by simp [intOf];omega⟩
     ·cases tb
      ·go_wp2_with fail
       refine box_tail 14 (by kernel_rfl) (by kernel_rfl) ?_
       simp only [List.take_succ_cons,List.take_zero,List.drop_succ_cons,List.drop_zero]
       iterate 14
        refine box_step (fun K hK => ?_)
        go_simp
        refine hK _ ?_
        clear hK K
       refine ⟨wpStill_nil ?_⟩
       go_wp2_with fail
       obtain ⟨wd,hwd⟩ : ∃ wd,wr.drew = wd := ⟨_,rfl⟩
       have HB3 : Hid (Below wo.heap.size wo wd) := hwd ▸ HB2.out.drew
       rw [hwd]
       clear hwd hcx
       have hcx := HCB.out _ HB3.out.drew
       have HS : Hid (∀ W,Below wo.heap.size wo W -> Below wo.heap.size wo W ∧ W.cell? ⟨b,off + j,none⟩ = some (.string (ofBytes x))) := fun W hW => ⟨hW,HCB.out W hW⟩
       have H1 : Hid (∀ l : List (List UInt8),∀ u ∈ l.map encT,u.oneCell' = true) := fun l u hu => by
        obtain ⟨z,_,rfl⟩ := List.mem_map.1 hu;rfl
       have HT : Hid (∀ W,Below wo.heap.size wo W -> RowAt W (some ⟨g,0,none⟩) ((o.take m).map encT)) := fun W hW => by rw [List.map_take];exact take_row (HG.out W hW)
       have HD : Hid (∀ W,Below wo.heap.size wo W -> RowAt W (if cap = m then some ⟨g,0,none⟩ else some ⟨g,m,none⟩) ((o.drop m).map encT)) := fun W hW => by
        split
        ·exact fun hn => absurd hn (by rw [List.length_map,List.length_drop,HML.out];omega)
        ·rw [List.map_drop];exact drop_row (HG.out W hW)
       have HTL : Hid (((o.take m).map encT).length = m) := by rw [Hid,List.length_map,List.length_take,HML.out];omega
       have HDL : Hid (((o.drop m).map encT).length = 0) := by rw [Hid,List.length_map,List.length_drop,HML.out];omega
       have HIN : Hid (insL x o = o.take m ++ [x] ++ o.drop m) := ins_at (fun z hz => Int.not_lt.2 (HLE.out z hz)) HQ.out (of_decide_eq_false HTB.out.symm)
       have HM' : Hid ((sortL (xs.take (j + 1))).length = m + 1) := by
        rw [Hid,HST.out,HIN.out,List.length_append,List.length_append,List.length_take,List.length_drop,HML.out,List.length_singleton]
        omega
       have HF : Hid (∀ (W : World) (v : Value),W.ownsRow wo.heap.size 9 1 v (0 + m + 1 + 0) ([] ++ (o.take m).map encT ++ [encT x] ++ (o.drop m).map encT) -> W.ownsRow w.heap.size 9 1 v (m + 1) ((sortL (xs.take (j + 1))).map encT)) := fun W v hv => by
        rw [HST.out,HIN.out,List.map_append,List.map_append]
        rw [show 0 + m + 1 + 0 = m + 1 by omega] at hv
        exact owns_base hv HB.out.size
       have hb4 := HB3.out.drew
       have hkz : (0 : Int) <= (m : Int) := Int.natCast_nonneg _
       have hkm' : (m : Int) <= (m : Int) := by omega
       have hmc' : (m : Int) <= (cap : Int) := by omega
       have hkc' : (m : Int) <= (cap : Int) := by omega
       go_region_held3 (fun w1 => Below wo.heap.size wo w1 ∧ w1.cell? ⟨b,off + j,none⟩ = some (.string (ofBytes x))) (first | exact HS.out _ (by assumption) | exact HS.out _ (Below.alloc (by assumption) (Below.size (show Below wo.heap.size wo _ by assumption)) _)) (first
        | refine step_from wo _ rfl (.const (.slice none 0 0)) (.tmp 46) 31 rfl 9 i0 (.string ⟨#[]⟩) 16 Tryz.underlying31 hi hz0 hz1 hz2 (by rfl) 0 [] (World.ownsRow_nil _ _ _ _) (by rfl) m ((o.take m).map encT) (HT.out _ (by first | assumption | exact (show Below wo.heap.size wo _ ∧ _ from by assumption).1)) (by rfl) HTL.out (H1.out _) (by unfold maxLen;omega) (by omega) (by first | assumption | exact (show Below wo.heap.size wo _ ∧ _ from by assumption).1) (fun v1 w1 hown1 hb1 hgr1 => ?_)
        | refine step_from wo _ rfl (.tmp 47) (.tmp 52) 31 rfl 9 i0 (.string ⟨#[]⟩) 16 Tryz.underlying31 hi hz0 hz1 hz2 (by rfl) (0 + m) ([] ++ (o.take m).map encT) (by first | assumption | exact World.ownsRow.alloc (by assumption) _) (by rfl) 1 [encT x] (by first | exact row_one _ _ _ | exact row_one_grown (by assumption) | exact row_one_drew (by assumption)) (by rfl) (by rfl) (H1.out [x]) (by unfold maxLen;omega) (by omega) (by first | assumption | exact Below.alloc (by assumption) (Below.size (show Below wo.heap.size wo _ by assumption)) _) (fun v1 w1 hown1 hb1 hgr1 => ?_)
        | refine step_from wo _ rfl (.tmp 53) (.tmp 56) 31 rfl 9 i0 (.string ⟨#[]⟩) 16 Tryz.underlying31 hi hz0 hz1 hz2 (by rfl) (0 + m + 1) ([] ++ (o.take m).map encT ++ [encT x]) (by assumption) (by rfl) 0 ((o.drop m).map encT) (HD.out _ (by assumption)) (by rfl) HDL.out (H1.out _) (by unfold maxLen;omega) (by omega) (by assumption) (fun v1 w1 hown1 hb1 hgr1 => ?_))
       all_goals
        have HO' := Lib.hid (HF.out _ _ hown1)
        have HB' : Hid (Below w.heap.size w w1) := below_trans HB.out hb1
        clear hown1 hb1 hgr1 HF HS H1 HT HD HTL HDL HIN hb4
        go_wp2_with fail
        exact ⟨⟨j + 1,m + 1,by omega,by go_num,HM',HO'.out,HB'.out⟩,by simp [intOf];omega⟩
      ·go_wp2_with fail
       refine box_tail 14 (by kernel_rfl) (by kernel_rfl) ?_
       simp only [List.take_succ_cons,List.take_zero,List.drop_succ_cons,List.drop_zero]
       iterate 14
        refine box_step (fun K hK => ?_)
        go_simp
        refine hK _ ?_
        clear hK K
       refine ⟨wpStill_nil ?_⟩
       go_wp2_with fail
       have HIN : Hid (insL x o = o) := ins_in (fun z hz => Int.not_lt.2 (HLE.out z hz)) (of_decide_eq_true HTB.out.symm)
       have HM' : Hid ((sortL (xs.take (j + 1))).length = m) := by rw [Hid,HST.out,HIN.out,HML.out]
       have HO' : Hid (wr.drew.ownsRow w.heap.size 9 1 (.slice (some ⟨g,0,none⟩) m cap) m ((sortL (xs.take (j + 1))).map encT)) := by rw [Hid,HST.out,HIN.out];exact owns_below HOWN.out HB2.out.drew
       have HB' : Hid (Below w.heap.size w wr.drew) := below_trans HB.out HB2.out.drew
       clear HIN
       exact ⟨⟨j + 1,m,by omega,by go_num,HM',HO'.out,HB'.out⟩,by simp [intOf];omega⟩
  ·obtain rfl : j = n := by omega
   have HL : Hid (xs.take j = xs) := List.take_of_length_le (by rw [HN.out];exact Nat.le_refl _)
   rw [HL.out] at hown HML
   obtain ⟨A2,c2,rfl,h1,h2⟩ := owns_slice hown
   have HO := Lib.hid hown
   have HB := Lib.hid hb
   clear hown hb
   go_wp2_with fail
   go_ret
   exact ⟨_,_,_,rfl,HML.out,h1,h2,Lib.hid (row_of_own HO.out),HB.out,fun ad e => (HO.out.lt ad.block (by rw [e];rfl)).1⟩
end
end Go.Proofs.YtdpooagnbmpinaaGreatDoor
