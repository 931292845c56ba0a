import Derived.Test.YtdpooagnbmpinaaGreatDoorZW2
import Derived.Test.YtdpooagnbmpinaaGreatDoorShelf
import Derived.Lib.OwnBridge
import Derived.RangeFuncBox
import Derived.OneCell
import Derived.Laws.BitsAllLaws
namespace Go.Proofs.YtdpooagnbmpinaaGreatDoor
section
open Go.RowKit Go.Shelf
theorem Tryz.infoU8 : (Tryz.prog.info? 5).map (fun i => (i.zero,i.size,i.bytes)) = some (some (.int .u8 0),1,1) := by kernel_rfl
theorem plain_add (b off j : Nat) : (⟨b,off,none⟩ : Addr).add j = ⟨b,off + j,none⟩ := by unfold Addr.add;split <;> simp_all
def ClonePost (xs : List UInt8) (n : Nat) (w : World) (e : Ending) (w' : World) : Prop :=
 ∃ g cap,e = .returned (.slice (some ⟨g,0,none⟩) n cap) ∧ w'.ownsRow w.heap.size 5 1 (.slice (some ⟨g,0,none⟩) n cap) n (xs.map encB) ∧ Below w.heap.size w w'
theorem clone_any (xs : List UInt8) (b off n c : Nat) (w : World) (hl : xs.length = n) (h0 : 0 < n) (hn : n <= 100000) (h : RowAt w (some ⟨b,off,none⟩) (xs.map encB)) :
  Calls Tryz.prog 120 #[.slice (some ⟨b,off,none⟩) n c] w (ClonePost xs n w) := by
 obtain ⟨i0,hi,hz0,hz1,hz2⟩ := info_parts Tryz.infoU8
 have hc := AnyE.slices_Clone Tryz.cloneByte i0 (.int .u8 0) 1 1 hi hz0 hz1 hz2 rfl (by decide) Tryz.sizeOf5 b off n c (xs.map encB) w (by rw [List.length_map,hl,Nat.mul_one]) (by unfold maxLen;omega) (by omega)
  (fun j u hu => by
   obtain ⟨b',off',e,_,hc⟩ := h.get hu
   cases e;exact hc)
  (fun u hu => by obtain ⟨x,_,rfl⟩ := List.mem_map.1 hu;rfl)
 change Calls Tryz.prog 120 _ _ _ at hc
 refine hc.mono ?_
 rintro e w' ⟨v,rfl,hown,_,hb⟩
 obtain ⟨g,cap,rfl,_⟩ := hown.form h0
 exact ⟨g,cap,rfl,hown,hb⟩
theorem grownBy_putRow {α : Type} [Inhabited α] (enc : α -> Value) (w : World) (q g : Nat) (d : Array α) : w.grownBy (Sort.putRow enc (Sort.ahead w q) g 0 d) (some g) :=
 ⟨rfl,rfl,rfl,by simp [Sort.putRow,Sort.mapBlock,Sort.ahead],fun i _ hne => by
  have : g ≠ i := fun e => hne (by rw [e])
  simp [Sort.putRow,Sort.mapBlock,Sort.ahead,Array.getElem?_modify,this]⟩
theorem reverse_any (xs : List UInt8) (g n cap base : Nat) (w : World) (hn : n <= 100000) (h : w.ownsRow base 5 1 (.slice (some ⟨g,0,none⟩) n cap) n (xs.map encB)) :
  Calls Tryz.prog 238 #[.slice (some ⟨g,0,none⟩) n cap] w fun e w' => e = .returned (.tuple #[]) ∧ w'.ownsRow base 5 1 (.slice (some ⟨g,0,none⟩) n cap) n (xs.reverse.map encB) ∧ w.grownBy w' (some g) := by
 obtain ⟨g',cap',e,_,hg,_,_,hl,hH⟩ := Lib.holds_of_ownsRow h (by simp)
 injection e with e _ ec
 injection e with e
 injection e with e
 subst e;subst ec
 have hr := AnyE.slices_Reverse Tryz.reverseByte encB (fun _ => rfl) g 0 cap xs w hH (by omega)
 change Calls Tryz.prog 238 _ _ _ at hr
 rw [hl] at hr
 refine hr.mono ?_
 rintro e w' ⟨rfl,q,rfl⟩
 refine ⟨rfl,?_,grownBy_putRow _ _ _ _ _⟩
 have := Lib.ownsRow_putRow (q := q) (ys := xs.reverse) h (by rw [List.length_reverse,hl]) (Nat.le_refl n)
 rw [List.take_of_length_le (by rw [List.length_reverse,hl];exact Nat.le_refl _)] at this
 exact this
end
section
open Go.RowKit Go.Shelf
attribute [local go_sem] Oper.semAt_some
theorem owns_ownFrom {B base : Nat} {e : TypeId} {size n : Nat} {v : Value} {xs : List Value} {W W' : World} {row : Option Nat} (h : W.ownsRow base e size v n xs) (hg : W.grownBy W' row)
  (hr : ∀ r,row = some r -> B <= r ∧ ∃ o,W.heap[r]? = some o ∧ o.isCells = false) : W'.ownsRow base e size v n xs := by
 refine ⟨h.1,?_⟩
 rcases h.2 with h0 | ⟨g,cap,cur,hv,hb,hc,rest⟩
 ·exact .inl h0
 ·refine .inr ⟨g,cap,cur,hv,hb,(hg.block g (Array.getElem?_eq_some_iff.1 hc).1 (fun e => ?_)).trans hc,rest⟩
  obtain ⟨_,o,ho,hic⟩ := hr g e.symm
  rw [hc] at ho
  cases ho
  cases hic
theorem owns_base {w : World} {base base' : Nat} {e : TypeId} {size n : Nat} {v : Value} {xs : List Value} (h : w.ownsRow base e size v n xs) (hb : base' <= base) : w.ownsRow base' e size v n xs := by
 refine ⟨h.1,?_⟩
 rcases h.2 with h0 | ⟨g,cap,cur,hv,hbase,rest⟩
 ·exact .inl h0
 ·exact .inr ⟨g,cap,cur,hv,by omega,rest⟩
theorem owns_slice {w : World} {base : Nat} {e : TypeId} {size n : Nat} {v : Value} {xs : List Value} (h : w.ownsRow base e size v n xs) : ∃ A c,v = .slice A n c ∧ n <= c ∧ c <= maxLen := by
 rcases h.2 with ⟨e0,e1⟩ | ⟨g,cap,cur,hv,_,_,h1,h2,_⟩
 ·subst e1;exact ⟨none,0,e0,Nat.le_refl _,Nat.zero_le _⟩
 ·exact ⟨_,_,hv,h1,h2⟩
theorem wpIn_append_run {F : Fence} {n : Nat} {P : Program} {w w' : World} {o : Oper} {a : Act} {K : Act -> World -> Prop} {Q : Exit -> Act -> World -> Prop} (s x : Operand) (t : TypeId) {v u v' : Value}
  (ho : o.op = .call { callee := .builtin .append,args := #[s,x],argTypes := #[t,t] }) (hs : a.eval s = v) (hx : a.eval x = u) (hr : (Builtin.append_ #[t,t] o.type #[v,u]).run P w = .ok v' w')
  (h : K (a.put o.dst v') w') : o.wpIn F n P a w K Q := by
 unfold Oper.wpIn
 refine ⟨?_,?_⟩
 ·simp [Oper.about,ho,resolve,Target.leads,Sem.run_pure]
 ·rw [Oper.semAt_plain F _ _ (by rw [ho];intro c hc';cases hc')]
  simp [execOp,ho,resolve,invoke,builtin,hs,hx,hr,Result.andThen]
  exact h
theorem cell_mark {W : World} {D b : Nat} (hK : W.heap[D]? = some (.deferred (some []))) {u : Value} (h : W.cell? ⟨b,0,none⟩ = some u) : (W.putObj D (.deferred none)).cell? ⟨b,0,none⟩ = some u := by
 have hne : b ≠ D := fun e => by
  subst e
  simp [World.cell?,hK] at h
 rw [World.cell?_of_block (World.putObj_heap_other hne)];exact h
theorem range_prefix_inv {pre : List Nat} {x n : Nat} (h : pre ++ [x] <+: List.range n) : pre = List.range x ∧ x < n := by
 obtain ⟨t,ht⟩ := h
 have hl := congrArg List.length ht
 simp at hl
 have hp : pre = (List.range n).take pre.length := by rw [<- ht];simp
 have hx : (List.range n)[pre.length]? = some x := by rw [<- ht];simp
 rw [List.getElem?_range (by omega)] at hx
 have hx' := Option.some.inj hx
 rw [List.take_range,Nat.min_eq_left (by omega)] at hp
 subst hx'
 exact ⟨hp,by omega⟩
def WordsI (w0 W2 : World) (bs : List UInt8) (H : Nat) (pre : List Nat) (W : World) : Prop :=
 ∃ v,W.heap[w0.heap.size]? = some (.cells #[v] 23 (0,0)) ∧ W.ownsRow H 24 1 v pre.length ((pre.map (wordAt bs)).map encW) ∧ Below w0.heap.size w0 W ∧ W2.heap.size <= W.heap.size ∧ ∀ k,k < W2.heap.size -> k ≠ w0.heap.size -> W.heap[k]? = W2.heap[k]?
theorem wordsI_own {w0 W2 : World} {bs : List UInt8} {H : Nat} (hB : w0.heap.size < W2.heap.size) : OwnFrom W2.heap.size (WordsI w0 W2 bs H) := fun _ X Y row hs hg hr => by
 obtain ⟨v,h1,h2,h3,h4,h5⟩ := hs
 have hk : ∀ k,k < W2.heap.size -> Y.heap[k]? = X.heap[k]? := fun k hk => hg.block k (by omega) (fun e => by have := (hr _ e.symm).1;omega)
 exact ⟨v,(hk _ hB).trans h1,owns_ownFrom h2 hg hr,h3.grown hg h3.size (fun k e => by have := (hr k e).1;omega),Nat.le_trans h4 hg.size,fun k e1 e2 => (hk k e1).trans (h5 k e1 e2)⟩
set_option maxRecDepth 100000 in
set_option maxHeartbeats 4000000 in
theorem words_any (bs : List UInt8) (b off n c : Nat) (w : World) (hn : bs.length = n) (hm : n <= 4096) (hnc : n <= c) (hc : c <= maxLen) (h : RowAt w (some ⟨b,off,none⟩) (bs.map encB)) (hb : b < w.heap.size) :
  Calls Tryz.prog 206 #[.slice (some ⟨b,off,none⟩) n c] w fun e w' => ∃ v,e = .returned (.tuple #[v,.int .i64 0]) ∧ w'.ownsRow w.heap.size 24 1 v ((n + 7) / 8) ((wordsN bs).map encW) ∧ Below w.heap.size w w' := by
 have HN := Lib.hid hn
 have HR := Lib.hid h
 clear hn h
 obtain ⟨i0,hi,hz0,hz1,hz2⟩ := info_parts Tryz.infoU64
 refine calls_of_wp_marks Tryz.func206 rfl ?_
 simp only [Tryz.ntmps206,List.size_toArray,List.length_cons,List.length_nil,Nat.reduceAdd,Nat.reduceSub,Array.replicate_succ,Array.replicate_zero,List.push_toArray,List.append_toArray,List.nil_append,List.cons_append]
 go_wp2_with (go_at_call 237;refine (chunk_any _ _ rfl).mono ?_;rintro e w' ⟨rfl,rfl⟩)
 have g0 : (((w.alloc (.cells #[.slice none 0 0] 23)).alloc (.cells #[.slice (some ⟨b,off,none⟩) n c] 26)).alloc (.cells #[.int .i64 8] 3)).heap.size = w.heap.size + 3 := by simp
 have g1 : Below w.heap.size w (((w.alloc (.cells #[.slice none 0 0] 23)).alloc (.cells #[.slice (some ⟨b,off,none⟩) n c] 26)).alloc (.cells #[.int .i64 8] 3)) := (((Below.refl _ _).alloc (Nat.le_refl _) _).alloc (by simp) _).alloc (by simp;omega) _
 have g2 : (((w.alloc (.cells #[.slice none 0 0] 23)).alloc (.cells #[.slice (some ⟨b,off,none⟩) n c] 26)).alloc (.cells #[.int .i64 8] 3)).heap[w.heap.size]? = some (.cells #[.slice none 0 0] 23 (0,0)) := by
  rw [Below.heap_alloc _ _ _ (by simp;omega),Below.heap_alloc _ _ _ (by simp)]
  exact World.alloc_heap_new w _
 have g3 : (((w.alloc (.cells #[.slice none 0 0] 23)).alloc (.cells #[.slice (some ⟨b,off,none⟩) n c] 26)).alloc (.cells #[.int .i64 8] 3)).cell? ⟨w.heap.size + 1,0,none⟩ = some (.slice (some ⟨b,off,none⟩) n c) := by
  rw [World.cell?_alloc_lt _ _ _ (by simp)]
  simp
 have g4 : (((w.alloc (.cells #[.slice none 0 0] 23)).alloc (.cells #[.slice (some ⟨b,off,none⟩) n c] 26)).alloc (.cells #[.int .i64 8] 3)).cell? ⟨w.heap.size + 1 + 1,0,none⟩ = some (.int .i64 8) := by
  have := World.cell?_alloc_new ((w.alloc (.cells #[.slice none 0 0] 23)).alloc (.cells #[.slice (some ⟨b,off,none⟩) n c] 26)) #[.int .i64 8] 3 0
  simpa using this
 generalize (((w.alloc (.cells #[.slice none 0 0] 23)).alloc (.cells #[.slice (some ⟨b,off,none⟩) n c] 26)).alloc (.cells #[.int .i64 8] 3)) = W2 at *
 refine wp_rangeQ_fix (gf := 264) (lb := #[.pointer (some ⟨w.heap.size + 1,0,none⟩),.pointer (some ⟨w.heap.size + 1 + 1,0,none⟩)]) rfl (enters_of Tryz.func264 (by kernel_rfl) rfl)
  (chunk_iter (w.heap.size + 1) (w.heap.size + 1 + 1) b off n c hm hnc hc W2) (Below.refl _ _) (Nat.zero_le _) (fun _ => rfl)
  (fun H => WordsI w W2 bs H) (fun _ _ _ _ => False) (fun _ => wordsI_own (by omega)) (fun _ _ => fun _ _ _ _ h _ _ => h.elim)
  (fun H pre W hI => by
   obtain ⟨_,_,_,_,_,h5⟩ := hI
   exact ⟨(World.cell?_of_block (a := ⟨w.heap.size + 1,0,none⟩) (h5 (w.heap.size + 1) (by omega) (by omega))).trans g3,(World.cell?_of_block (a := ⟨w.heap.size + 1 + 1,0,none⟩) (h5 (w.heap.size + 1 + 1) (by omega) (by omega))).trans g4⟩)
  (fun H hH => ⟨.slice none 0 0,g2,World.ownsRow_nil _ _ _ _,g1,Nat.le_refl _,fun _ _ _ => rfl⟩) ?_ ?_ ?_ ?_ ?_
 rotate_left
 ·intro l x W K hK
  unfold encC
  gi_wp2
  exact hK
 ·rintro l' H pre x W1 hl hlH hHW _ hI hT
  obtain ⟨hpre,hxn⟩ := range_prefix_inv hT
  obtain ⟨v,h1,h2,h3,h4,h5⟩ := hI
  have hpl : pre.length = x := by rw [hpre];simp
  obtain ⟨m,HM,hm8,hm0,hmn⟩ : ∃ m : Nat,Hid (min 8 (n - 8 * x) = m) ∧ m <= 8 ∧ 0 < m ∧ 8 * x + m <= n := ⟨_,rfl,by omega,by omega,by omega⟩
  have HY : Hid (((bs.drop (8 * x)).take 8).length = m) := by
   rw [Hid,List.length_take,List.length_drop,HN.out];exact HM.out
  have HRY : Hid (RowAt W1 (some ⟨b,off + 8 * x,none⟩) (((bs.drop (8 * x)).take 8).map encB)) := fun _ => by
   refine ⟨b,off + 8 * x,rfl,by have := h3.size;omega,fun k u hu => ?_⟩
   have hk : k < m := by
    have := (List.getElem?_eq_some_iff.1 hu).1
    rw [List.length_map,HY.out] at this;exact this
   rw [h3.cell (p := ⟨b,off + 8 * x + k,none⟩) hb]
   obtain ⟨b',off',e,_,hc⟩ := HR.out.get (k := 8 * x + k) (u := u) (by
    rw [<- hu,List.getElem?_map,List.getElem?_map,List.getElem?_take,if_pos (by omega),List.getElem?_drop])
   cases e
   rw [Nat.add_assoc];exact hc
  rw [HM.out]
  have HW := Lib.hid (show wordAt bs x = leN ((bs.drop (8 * x)).take 8) from rfl)
  generalize (bs.drop (8 * x)).take 8 = ys at *
  rw [hpl] at h2
  have hc1 : W1.cell? ⟨w.heap.size,0,none⟩ = some v := by rw [cell_of_row _ _ _ _ _ _ h1];rfl
  have hf1 : W1.frozen? ⟨w.heap.size,0,none⟩ = false := by simp [World.frozen?,h1]
  have hpre' := hpl
  clear hT hpl
  gi_wp2_with fail
  refine ⟨trivial,?_⟩
  refine (CallsIn.inRound l' (callsIn_wide.2 (clone_any ys b (off + 8 * x) m m W1 HY.out hm0 (by omega) HRY.out))).mono ?_
  rintro e W3 ⟨g,cap,rfl,hown,hb3⟩
  gi_wp2_with fail
  refine ⟨trivial,?_⟩
  refine (CallsIn.inRound l' (callsIn_wide.2 (reverse_any ys g m cap _ W3 (by omega) hown))).mono ?_
  rintro e W4 ⟨rfl,hown4,hgr4⟩
  gi_wp2_with fail
  have hwl : w.heap.size < W1.heap.size := by omega
  have hgl := (hown.lt g rfl).1
  have HLT := Lib.hid h2.lt
  have hvne : ∀ k,v.ownBlock = some k -> H <= k ∧ k < W1.heap.size := fun k e => h2.lt k e
  have h14 : W4.heap[w.heap.size]? = some (.cells #[v] 23 (0,0)) :=
   (hgr4.block w.heap.size (by have := hb3.size;omega) (by intro e;injection e with e;omega)).trans ((hb3.block w.heap.size hwl).trans h1)
  have ho4 : W4.ownsRow H 24 1 v x ((pre.map (wordAt bs)).map encW) :=
   (owns_below h2 hb3).kept hgr4 (by
    cases hv : v.ownBlock with
    | none => exact .inl rfl
    | some k => exact .inr (by intro e;injection e with e;have := (hvne k hv).2;omega))
  have hz4 : W1.heap.size <= W4.heap.size := Nat.le_trans hb3.size hgr4.size
  have hfold := folded_any ys.reverse (some ⟨g,0,none⟩) m cap W4.drew (by rw [List.length_reverse];exact HY.out) hm8 (row_of_own hown4)
  rw [List.reverse_reverse,<- HW.out] at hfold
  obtain ⟨v',W6,hr6,hown6,hgr6,_⟩ := run_append_own (P := Tryz.prog) ((W4.alloc (.cells #[.int .u64 (wordAt bs x : Nat)] 24)).drew) H 23 23 24 i0 (.int .u64 0) 1 8 Tryz.underlyingU64s hi hz0 hz1 hz2 rfl (by decide) v x ((pre.map (wordAt bs)).map encW) ((ho4.alloc _).drew) ⟨W4.heap.size,0,none⟩ 1 1 [.int .u64 (wordAt bs x : Nat)] rfl
   (by
    intro j u hj
    match j,hj with
    | 0,hj => simp at hj;subst hj;simp [Addr.add])
   (by intro u hu;simp at hu;subst hu;rfl) (by unfold maxLen;omega) (by omega) (by simp;omega)
  obtain ⟨g',cap',rfl⟩ := ownsRow_succ hown6
  have h16 : W6.heap[w.heap.size]? = some (.cells #[v] 23 (0,0)) := by
   refine (hgr6.block w.heap.size (by simp;omega) (fun e => ?_)).trans ?_
   ·have := (hvne _ e.symm).1;omega
   ·show (W4.alloc _).heap[w.heap.size]? = _
    rw [Below.heap_alloc _ _ _ (by omega)];exact h14
  have hc6 : W6.cell? ⟨w.heap.size,0,none⟩ = some v := by rw [cell_of_row _ _ _ _ _ _ h16];rfl
  have hf6 : W6.frozen? ⟨w.heap.size,0,none⟩ = false := by simp [World.frozen?,h16]
  have HK1 : Hid (∀ k,k < W1.heap.size -> v.ownBlock ≠ some k -> k ≠ w.heap.size -> (W6.setCell ⟨w.heap.size,0,none⟩ (.slice (some ⟨g',0,none⟩) (x + 1) cap')).heap[k]? = W1.heap[k]?) := fun k hk hv hne => by
   rw [Below.heap_setCell _ _ _ k hne,hgr6.block k (by simp;omega) hv.symm]
   show (W4.alloc _).heap[k]? = _
   rw [Below.heap_alloc _ _ _ (by omega)]
   exact (hgr4.block k (by have := hb3.size;omega) (by intro e;injection e with e;omega)).trans (hb3.block k hk)
  have HG : Hid (Keeps W2.heap.size 0 H W1 (W6.setCell ⟨w.heap.size,0,none⟩ (.slice (some ⟨g',0,none⟩) (x + 1) cap')) ∧ WordsI w W2 bs H (pre ++ [x]) (W6.setCell ⟨w.heap.size,0,none⟩ (.slice (some ⟨g',0,none⟩) (x + 1) cap'))) := by
   have hsz7 : (W6.setCell ⟨w.heap.size,0,none⟩ (.slice (some ⟨g',0,none⟩) (x + 1) cap')).heap.size = W6.heap.size := by simp
   have hz6 : W1.heap.size <= W6.heap.size := by have := hgr6.size;simp at this;omega
   have hB6 : Below w.heap.size w W6 := (((h3.trans (hb3.mono (by omega))).grown hgr4 (by have := hb3.size;omega) (fun k e => by cases e;omega)).alloc (by omega) _).drew.grown hgr6 (by simp;omega) (fun k e => by have := (hvne k e).1;omega)
   have hL : ∀ r,(Value.slice (some ⟨g',0,none⟩) (x + 1) cap').ownBlock = some r -> H <= r := fun r e => (hown6.lt r e).1
   refine ⟨⟨⟨?_,?_,?_,by omega,fun k hk => absurd hk (by omega)⟩,fun k o hk ho hc => ?_,fun k hk hkH => ?_⟩,?_⟩
   ·show W6.os = W1.os
    rw [hB6.os,h3.os]
   ·show W6.tape = W1.tape
    rw [hB6.tape,h3.tape]
   ·show W6.output = W1.output
    rw [hB6.output,h3.output]
   ·refine (HK1.out k (Array.getElem?_eq_some_iff.1 ho).1 (fun e => ?_) (by omega)).trans ho
    rcases h2.2 with ⟨e0,_⟩ | ⟨g0,c0,cur,e0,_,hc0,_⟩
    ·rw [e0] at e;cases e
    ·rw [e0] at e
     injection e with e
     rw [<- e] at ho
     rw [hc0] at ho
     cases ho
     cases hc
   ·exact HK1.out k (by omega) (fun e => by have := (hvne k e).1;omega) (by omega)
   ·refine ⟨.slice (some ⟨g',0,none⟩) (x + 1) cap',?_,?_,hB6.setCell (p := ⟨w.heap.size,0,none⟩) (Nat.le_refl _) _,by omega,fun k hk hne => ?_⟩
    ·simp [World.setCell,Array.getElem?_modify,h16]
    ·rw [List.length_append,List.map_append,List.map_append,hpre',show [x].length = 1 by rfl]
     have := ownsRow_setCell_other hown6 (a := ⟨w.heap.size,0,none⟩) (fun e => by have h' : H <= w.heap.size := hL _ e;omega) (.slice (some ⟨g',0,none⟩) (x + 1) cap')
     exact this
    ·rw [HK1.out k (by omega) (fun e => by have := (hvne k e).1;omega) hne]
     exact h5 k hk hne
  clear h2 h5 hown hown4 hgr4 hb3 ho4 hvne hgr6 hown6
  rename_i Q2
  have hmx : Tryz.prog.follows .mixedOrders = true := by kernel_rfl
  refine whichever_region (fun w2 => w2.cell? ⟨w.heap.size,0,none⟩ = some v) [4,5] hmx ?_
  have hS0 : W4.drew.cell? ⟨w.heap.size,0,none⟩ = some v := by
   show W4.cell? _ = _
   rw [cell_of_row _ _ _ _ _ _ h14];rfl
  refine whichever_take 0 v [4,5] rfl (by kernel_rfl) (fun _ _ _ h => h) hS0 (by rfl) (fun w hw => ?_) ?_
  ·constructor <;> go_simp
  refine whichever_take 1 (.slice (some ⟨g,0,none⟩) m cap) [2,3,4,5] rfl (by kernel_rfl) (fun _ _ _ h => h) hS0 (by rfl) (fun w hw => ?_) ?_
  ·constructor <;> go_simp
  refine whichever_next 2 rfl (by kernel_rfl) (by rfl) ?_
  go_simp
  refine ⟨trivial,?_⟩
  refine (CallsIn.inRound l' (callsIn_wide.2 hfold)).mono ?_
  rintro e w8 ⟨rfl,rfl⟩
  simp only
  refine ⟨hS0,?_⟩
  refine whichever_next 3 rfl (by kernel_rfl) (by rfl) ?_
  go_simp
  refine ⟨by first | exact hS0 | (rw [World.cell?_alloc_lt _ _ _ (by show w.heap.size < W4.heap.size;omega)];exact hS0),?_⟩
  refine whichever_next 4 rfl (by kernel_rfl) (by rfl) ?_
  refine wpIn_append_run _ _ _ rfl rfl rfl hr6 ⟨fun h => absurd h (by decide),?_⟩
  refine whichever_next 5 rfl (by kernel_rfl) (by rfl) ?_
  go_simp
  refine whichever_end (by kernel_rfl) ?_
  go_simp
  exact HG.out
 ·rintro D H xs W4 hD hH hxs hI hK
  obtain ⟨v,h1,h2,h3,h4,h5⟩ := hI
  have hc1 : W4.cell? ⟨w.heap.size,0,none⟩ = some v := by rw [cell_of_row _ _ _ _ _ _ h1];rfl
  have hf1 : W4.frozen? ⟨w.heap.size,0,none⟩ = false := by simp [World.frozen?,h1]
  have hxl : xs.length = (n + 7) / 8 := by rw [hxs];simp
  have HO : Hid (W4.ownsRow w.heap.size 24 1 v ((n + 7) / 8) ((wordsN bs).map encW)) := by
   rw [hxl] at h2
   have e : wordsN bs = xs.map (wordAt bs) := by rw [wordsN,HN.out,hxs]
   rw [Hid,e]
   exact owns_base h2 (by omega)
  have HB := Lib.hid h3
  have HK := Lib.hid hK
  have hvb : v.ownBlock ≠ some w.heap.size := fun e => by have := (h2.lt _ e).1;omega
  clear h2 h3 h5 hxs hxl hK
  obtain ⟨A,cc,rfl,_,_⟩ := owns_slice HO.out
  have hcs := World.cell?_setCell_same' W4 ⟨w.heap.size,0,none⟩ (.slice A ((n + 7) / 8) cc) (by rw [hc1];rfl)
  have HO9 : Hid ((W4.setCell ⟨w.heap.size,0,none⟩ (.slice A ((n + 7) / 8) cc)).ownsRow w.heap.size 24 1 (.slice A ((n + 7) / 8) cc) ((n + 7) / 8) ((wordsN bs).map encW)) := ownsRow_setCell_other HO.out (a := ⟨w.heap.size,0,none⟩) hvb _
  have HK9 := Lib.hid ((Below.heap_setCell W4 ⟨w.heap.size,0,none⟩ (.slice A ((n + 7) / 8) cc) D (by show D ≠ w.heap.size;omega)).trans HK.out)
  have HB9 := Lib.hid (HB.out.setCell (p := ⟨w.heap.size,0,none⟩) (Nat.le_refl _) (.slice A ((n + 7) / 8) cc))
  go_wp2_with fail
  generalize W4.setCell ⟨w.heap.size,0,none⟩ (.slice A ((n + 7) / 8) cc) = W9 at *
  have hcm := cell_mark HK9.out hcs
  refine ret_mark (v := .tuple #[.slice A ((n + 7) / 8) cc,.int .i64 0]) HK9.out (by simp [results,Tryz.results206,go_sem,hcm]) ⟨_,rfl,owns_ownFrom HO9.out (grownBy_putObj' _ _ _) (fun r e => by cases e;exact ⟨Nat.le_refl _,_,HK9.out,rfl⟩),below_mark HB9.out (by omega) HK9.out⟩
 ·rintro D H cc pre W4 hD hH hSp h hK
  exact h.elim
end
section
open Go.RowKit
def mixN (s x : Nat) : Nat := (s ^^^ x) * 1099511628211 % 18446744073709551616
theorem mixN_lt (s x : Nat) : mixN s x < 18446744073709551616 := by unfold mixN;omega
def moreN (s : Nat) (l : List Nat) : Nat := l.foldl mixN s
theorem moreN_lt : ∀ (l : List Nat) {s : Nat},s < 18446744073709551616 -> moreN s l < 18446744073709551616
 | [],s,hs => by unfold moreN;exact hs
 | x :: l,s,hs => by unfold moreN;rw [List.foldl_cons];exact moreN_lt l (mixN_lt s x)
theorem moreN_take {s : Nat} {l : List Nat} {k : Nat} (h : k < l.length) : moreN s (l.take (k + 1)) = mixN (moreN s (l.take k)) l[k] := by
 unfold moreN
 rw [List.take_succ_eq_append_getElem h,List.foldl_append,List.foldl_cons,List.foldl_nil]
theorem mix_xor (s x : Nat) (hs : s < 18446744073709551616) (hx : x < 18446744073709551616) : IntKind.u64.wrap (bits .xor .u64 (s : Int) (x : Int) * 1099511628211) = ((mixN s x : Nat) : Int) := by
 rw [u64_xor_nat s x hs hx]
 unfold mixN
 generalize s ^^^ x = y
 simp only [IntKind.wrap,IntKind.bits,IntKind.signed]
 rw [Int.natCast_emod,Int.natCast_mul]
 simp only [Bool.false_and,Bool.false_eq_true,if_false]
 have e1 : ((1099511628211 : Nat) : Int) = 1099511628211 := rfl
 have e2 : ((18446744073709551616 : Nat) : Int) = 2 ^ 64 := by decide
 rw [e1,e2]
theorem with2_any (s x : Nat) (w : World) (hs : s < 18446744073709551616) (hx : x < 18446744073709551616) :
  Calls Tryz.prog 279 #[.int .u64 s,.int .u64 x] w fun e w' => e = .returned (.int .u64 (mixN s x : Nat)) ∧ w = w' := by
 have h1 := mix_xor s x hs hx
 have h2 := u64_xor_nat s x hs hx
 rw [h2] at h1
 generalize s ^^^ x = y at *
 go_enter Tryz.func279,Tryz.ntmps279
 go_wp2
 go_ret
 exact ⟨rfl,rfl⟩
theorem add2_any (q s x : Nat) (w : World) (hs : s < 18446744073709551616) (hx : x < 18446744073709551616) (hc : w.cell? ⟨q,0,none⟩ = some (.int .u64 s)) (hf : w.frozen? ⟨q,0,none⟩ = false) :
  Calls Tryz.prog 266 #[.pointer (some ⟨q,0,none⟩),.int .u64 x] w fun e w' => e = .returned (.tuple #[]) ∧ w' = w.setCell ⟨q,0,none⟩ (.int .u64 (mixN s x : Nat)) := by
 have HW := Lib.hid (with2_any s x w hs hx)
 generalize mixN s x = y at *
 go_enter Tryz.func266,Tryz.ntmps266
 go_wp2_with (go_at_call 279;refine HW.out.mono ?_;rintro e w' ⟨rfl,rfl⟩)
 go_end0
 exact ⟨rfl,rfl⟩
theorem bound_add (q s x : Nat) (w : World) (hs : s < 18446744073709551616) (hx : x < 18446744073709551616) (hc : w.cell? ⟨q,0,none⟩ = some (.int .u64 s)) (hf : w.frozen? ⟨q,0,none⟩ = false) :
  Calls Tryz.prog 266 #[.pointer (some ⟨q,0,none⟩),.int .u64 x] w fun e w' => e = .returned (.tuple #[]) ∧ w'.cell? ⟨q,0,none⟩ = some (.int .u64 (mixN s x : Nat)) ∧ w'.frozen? ⟨q,0,none⟩ = false ∧ Below q w w' := by
 refine (add2_any q s x w hs hx hc hf).mono ?_
 rintro e w' ⟨rfl,rfl⟩
 exact ⟨rfl,World.cell?_setCell_same' _ _ _ (by rw [hc];rfl),(World.frozen?_setCell _ _ _ _).trans hf,(Below.refl _ _).setCell (p := ⟨q,0,none⟩) (Nat.le_refl _) _⟩
set_option maxRecDepth 100000 in
set_option maxHeartbeats 1000000 in
theorem each_any (xs : List Nat) (A : Option Addr) (n c q s : Nat) (w : World) (hn : xs.length = n) (hm : n <= 100000) (hx : ∀ x ∈ xs,x < 18446744073709551616) (hs : s < 18446744073709551616) (h : RowAt w A (xs.map encW)) (hA : ∀ b off,A = some ⟨b,off,none⟩ -> b < q)
  (hc : w.cell? ⟨q,0,none⟩ = some (.int .u64 s)) (hf : w.frozen? ⟨q,0,none⟩ = false) :
  Calls Tryz.prog 265 #[.func (.func 266) #[.pointer (some ⟨q,0,none⟩)] #[],.slice A n c] w fun e w' => e = .returned (.tuple #[]) ∧ w'.cell? ⟨q,0,none⟩ = some (.int .u64 (moreN s xs : Nat)) ∧ Below q w w' := by
 have HN := Lib.hid hn
 have HR := Lib.hid h
 have HA := Lib.hid hA
 have HX := Lib.hid hx
 have HC := Lib.hid (And.intro hc hf)
 have HS := Lib.hid hs
 clear h hn hA hx hc hf hs
 go_enter Tryz.func265,Tryz.ntmps265
 go_wp2_with fail
 go_loopw [8] (fun i wr => ∃ k : Nat,k <= n ∧ i = .int .i64 k ∧ Hid (wr.cell? ⟨q,0,none⟩ = some (.int .u64 (moreN s (xs.take k) : Nat)) ∧ wr.frozen? ⟨q,0,none⟩ = false) ∧ Below q w wr) (fun i _ => n - (intOf i).toNat)
 case atStart => exact ⟨0,Nat.zero_le _,rfl,HC,Below.refl _ _⟩
 case round =>
  obtain ⟨k,hk,rfl,HC',hb⟩ := hrel
  by_cases hlt : k < n
  ·have hkl : k < xs.length := by rw [HN.out];exact hlt
   obtain ⟨b,off,rfl,hbw,hcb⟩ := HR.out.get (k := k) (u := encW xs[k]) (by rw [List.getElem?_map,List.getElem?_eq_getElem hkl];rfl)
   have hbq := HA.out b off rfl
   have hcx : wr.cell? ⟨b,off + k,none⟩ = some (encW xs[k]) := (hb.cell (p := ⟨b,off + k,none⟩) hbq).trans hcb
   have hx64 := HX.out xs[k] (List.getElem_mem hkl)
   have HT := Lib.hid (moreN_take (s := s) hkl)
   have HL := Lib.hid (moreN_lt (xs.take k) HS.out)
   unfold encW at hcx
   generalize xs[k] = x at *
   generalize moreN s (xs.take k) = m at *
   have HCL := Lib.hid (bound_add q m x wr HL.out hx64 HC'.out.1 HC'.out.2)
   have HB := Lib.hid hb
   clear hcb hb
   go_wp2_with (go_at_call 266;refine HCL.out.mono ?_;rintro e w' ⟨rfl,hc1,hf1,hb1⟩;have HC1 := Lib.hid (And.intro hc1 hf1);clear hc1 hf1)
   exact ⟨⟨k + 1,by omega,by go_num,by rw [HT.out];exact HC1,HB.out.trans hb1⟩,by simp [intOf];omega⟩
  ·obtain rfl : k = n := by omega
   have HE : Hid (xs.take k = xs) := List.take_of_length_le (by rw [HN.out];exact Nat.le_refl _)
   go_wp2_with fail
   go_end0
   exact ⟨rfl,by have := HC'.out.1;rw [HE.out] at this;exact this,hb⟩
set_option maxRecDepth 100000 in
theorem more_any (xs : List Nat) (A : Option Addr) (n c s : Nat) (w : World) (hn : xs.length = n) (hm : n <= 4096) (hx : ∀ x ∈ xs,x < 18446744073709551616) (hs : s < 18446744073709551616) (h : RowAt w A (xs.map encW)) (hA : ∀ b off,A = some ⟨b,off,none⟩ -> b < w.heap.size) :
  Calls Tryz.prog 241 #[.int .u64 s,.slice A n c] w fun e w' => e = .returned (.tuple #[.int .u64 (moreN s xs : Nat),.int .i64 0]) ∧ Below w.heap.size w w' := by
 have HE := Lib.hid (fun W hb hc hf => each_any xs A n c w.heap.size s W hn (by omega) hx hs (h.below hb) hA hc hf)
 have HX := Lib.hid hx
 have HA := Lib.hid hA
 have HR := Lib.hid h
 clear hx hA h hn
 go_enter Tryz.func241,Tryz.ntmps241
 go_wp2_with fail
 refine wp_scope_fwd 0 ?_
 go_wp2_with go_step3
 refine (HE.out _ ((Below.refl _ _).alloc (Nat.le_refl _) _) (by simp) (by simp)).mono ?_
 rintro e w1 ⟨rfl,hc1,hb1⟩
 have HB1 : Hid (Below w.heap.size w w1) := ((Below.refl _ w).alloc (Nat.le_refl _) _).trans hb1
 clear hb1
 go_wp2_with go_step3
 rw [fwd_ret]
 go_ret2
 exact ⟨rfl,HB1.out⟩
end
end Go.Proofs.YtdpooagnbmpinaaGreatDoor
