import Derived.Test.YtdpooagnbmpinaaGreatDoorZW5
import Derived.Test.YtdpooagnbmpinaaGreatDoorZB2
import Derived.Laws.CopyOwn
import Derived.Test.YtdpooagnbmpinaaGreatDoorZQ1
import Derived.Laws.AppendOwnNone
namespace Go.Proofs.YtdpooagnbmpinaaGreatDoor
section
open Go.RowKit
def wordsP (s : List UInt8) (k : Nat) : Nat := if rightB s then wordAt s k else 0
theorem rightB_size {s : List UInt8} (h : rightB s = true) : 1 <= s.length ∧ s.length <= 40 := by
 simp [rightB] at h;omega
theorem arr5_zero (w : World) (t : TypeId) : Arr5 (w.alloc (.cells #[.int .u64 0,.int .u64 0,.int .u64 0,.int .u64 0,.int .u64 0] t)) w.heap.size (fun _ => 0) := by
 refine ⟨fun k hk => ?_,fun k => ?_⟩
 ·match k,hk with
  | 0,_ => simp
  | 1,_ => simp
  | 2,_ => simp
  | 3,_ => simp
  | 4,_ => simp
 ·simp
set_option maxRecDepth 100000 in
set_option maxHeartbeats 2000000 in
theorem labelWords_any (s : ByteArray) (w : World) (hs : s.size <= maxLen) :
  Calls Tryz.prog 137 #[.string s] w fun e w' => e = .returned (.tuple #[encF (wordsP (bytesOf s)),.int .i64 (errB (rightB (bytesOf s)))]) ∧ Below w.heap.size w w' := by
 have HC := Lib.hid (fun W => check_any s W hs)
 have hz := arr5_zero w 190
 have hb0 : Below w.heap.size w (w.alloc (.cells #[.int .u64 0,.int .u64 0,.int .u64 0,.int .u64 0,.int .u64 0] 190)) := (Below.refl _ _).alloc (Nat.le_refl _) _
 have HZ := Lib.hid hz
 have HB0 := Lib.hid hb0
 clear hz hb0
 have HWP : ∀ b,rightB (bytesOf s) = b -> Hid (wordsP (bytesOf s) = fun k => if b then wordAt (bytesOf s) k else 0) := fun b h => by
  rw [Hid];funext k;rw [wordsP,h]
 have HR : ∀ b,rightB (bytesOf s) = b -> Hid (rightB s.data.toList = b) := fun _ h => h
 cases hr : rightB (bytesOf s)
 ·have HW := HWP _ hr
  have HR1 := HR _ hr
  clear HWP HR hr
  go_enter Tryz.func137,Tryz.ntmps137
  go_wp2_with fail
  refine wp_scope_fwd 1 ?_
  go_wp2_with go_step3
  refine (HC.out _).mono ?_
  rintro e w1 ⟨rfl,hb1⟩
  rw [HR1.out]
  have ha := HZ.out.below hb1 (by simp)
  have HB1 := Lib.hid (below_trans HB0.out hb1)
  clear hb1
  go_wp2_with go_step3
  refine fwd_goto _ rfl ?_
  obtain ⟨d0,d1,d2,d3,d4⟩ := ha.five
  have e0 := ha.2 0
  have e1 := ha.2 1
  have e2 := ha.2 2
  have e3 := ha.2 3
  have e4 := ha.2 4
  have HA := Lib.hid ha
  clear ha
  go_wp2_with go_step3
  rw [fwd_ret]
  have HF : Hid (Arr5 (((((w1.setCell ⟨w.heap.size,0,none⟩ (.int .u64 0)).setCell ⟨w.heap.size,1,none⟩ (.int .u64 0)).setCell ⟨w.heap.size,2,none⟩ (.int .u64 0)).setCell ⟨w.heap.size,3,none⟩ (.int .u64 0)).setCell ⟨w.heap.size,4,none⟩ (.int .u64 0)) w.heap.size (fun _ => 0)) := HA.out.all (fun _ => 0)
  have HBF : Hid (Below w.heap.size w (((((w1.setCell ⟨w.heap.size,0,none⟩ (.int .u64 0)).setCell ⟨w.heap.size,1,none⟩ (.int .u64 0)).setCell ⟨w.heap.size,2,none⟩ (.int .u64 0)).setCell ⟨w.heap.size,3,none⟩ (.int .u64 0)).setCell ⟨w.heap.size,4,none⟩ (.int .u64 0))) := below_five HB1.out (Nat.le_refl _) (fun _ => 0)
  generalize (((((w1.setCell ⟨w.heap.size,0,none⟩ (.int .u64 0)).setCell ⟨w.heap.size,1,none⟩ (.int .u64 0)).setCell ⟨w.heap.size,2,none⟩ (.int .u64 0)).setCell ⟨w.heap.size,3,none⟩ (.int .u64 0)).setCell ⟨w.heap.size,4,none⟩ (.int .u64 0)) = W9 at *
  obtain ⟨g0,g1,g2,g3,g4⟩ := HF.out.five
  refine bodyPost_ret (v := .tuple #[encF (fun _ => 0),.int .i64 (errB false)]) (by simp [results,Tryz.results137,go_sem,g0,g1,g2,g3,g4,encF]) rfl ⟨?_,HBF.out⟩
  rw [HW.out];rfl
 ·have HW := HWP _ hr
  have HR1 := HR _ hr
  obtain ⟨hl1,hl40⟩ := rightB_size hr
  rw [size_bytesOf] at hl1 hl40
  clear HWP HR hr
  have hconv := fun W => Lib.run_convert_string_bytes (P := Tryz.prog) W 9 26 5 s Tryz.underlyingStr Tryz.underlyingBytes Tryz.underlyingByte
  have HCV := Lib.hid hconv
  clear hconv
  go_enter Tryz.func137,Tryz.ntmps137
  go_wp2_with fail
  refine wp_scope_fwd 1 ?_
  go_wp2_with go_step3
  refine (HC.out _).mono ?_
  rintro e w1 ⟨rfl,hb1⟩
  rw [HR1.out]
  have ha := HZ.out.below hb1 (by simp)
  have hH1 : w1.heap[w.heap.size]? = some (.cells #[.int .u64 0,.int .u64 0,.int .u64 0,.int .u64 0,.int .u64 0] 190 (0,0)) := (hb1.block w.heap.size (by simp)).trans (heap_alloc_new w _)
  have hs1 : w.heap.size < w1.heap.size := by have := hb1.size;simp at this;omega
  have HB1 := Lib.hid (below_trans HB0.out hb1)
  clear hb1
  have hconv := HCV.out
  go_wp2_with go_step3
  have hbB := below_bytes w1 5 s
  have hrow := row_bytes w1 5 s
  have hsB : (Lib.bytesWorld w1 5 s).heap.size = w1.heap.size + 1 := Lib.bytesWorld_size _ _ _
  have hcap1 := grownCap_ge w1 s.size 0 5
  have hcap2 := grownCap_le_maxLen w1 s.size 0 5 (by unfold maxLen;omega)
  clear hconv
  refine (words_any (bytesOf s) w1.heap.size 0 s.size _ _ rfl (by omega) hcap1 hcap2 hrow (by omega)).mono ?_
  rintro e w3 ⟨v,rfl,hown,hb3⟩
  obtain ⟨m,HM,hm5,hm1⟩ : ∃ m : Nat,Hid ((s.size + 7) / 8 = m) ∧ m <= 5 ∧ 1 <= m := ⟨_,rfl,by omega,by omega⟩
  rw [HM.out] at hown
  obtain ⟨A,cc,rfl,hmc,hcm⟩ := owns_slice hown
  obtain ⟨g,off,rfl,hgl,hgc⟩ := row_of_own hown (by rw [List.length_map,wordsN_length,size_bytesOf,HM.out];omega)
  have hB3 := below_trans HB1.out (hbB.trans (hb3.mono (by omega)))
  have hH3 : w3.heap[w.heap.size]? = some (.cells (List.replicate 5 (Value.int .u64 0)).toArray 190 (0,0)) := (hb3.block w.heap.size (by omega)).trans ((hbB.block w.heap.size hs1).trans hH1)
  have HB3 := Lib.hid hB3
  have HGC := Lib.hid hgc
  have HLN : Hid (((wordsN (bytesOf s)).map encW).length = m) := by rw [Hid,List.length_map,wordsN_length,size_bytesOf];exact HM.out
  have HPAST : Hid (∀ k,m <= k -> wordAt (bytesOf s) k = 0) := fun k hk => wordAt_past (by rw [size_bytesOf];have := HM.out;omega)
  have HGET : Hid (∀ k,k < m -> ((wordsN (bytesOf s)).map encW)[k]? = some (.int .u64 (wordAt (bytesOf s) k : Nat))) := fun k hk => by
   rw [List.getElem?_map,wordsN,List.getElem?_map,List.getElem?_range (by rw [size_bytesOf];have := HM.out;omega)];rfl
  clear hown hb3 hB3 hgc hrow ha hH1 hbB
  go_wp2_with (first | go_step3 | with_reducible refine wpList_copy_splice rfl _ _ 23 23 rfl 24 Tryz.underlyingU64s (by kernel_rfl) _ _ _ _ _ _ rfl rfl w.heap.size 0 (List.replicate 5 (Value.int .u64 0)) 190 hH3 ((wordsN (bytesOf s)).map encW) ?k1 ?k2 ?k3 ?k4 w.heap.size w HB3.out (Nat.le_refl _) ?_)
  case k1 => rw [HLN.out];exact (Nat.min_eq_left hm5).symm
  case k2 => exact fun _ j a hj => HGC.out j _ (by rw [List.getElem?_map,hj];rfl)
  case k3 => rw [HLN.out];simp;omega
  case k4 => intro u hu;obtain ⟨x,_,rfl⟩ := List.mem_map.1 hu;rfl
  intro w4 hH4 hB4
  have ha4 : Arr5 w4 w.heap.size (wordAt (bytesOf s)) := by
   refine ⟨fun k hk => ?_,fun k => by simp [World.frozen?,hH4.out]⟩
   rw [cell_of_row _ _ _ _ _ _ hH4.out]
   simp only [splice,List.take_zero,List.nil_append,List.getElem?_toArray]
   by_cases hkm : k < m
   ·rw [List.getElem?_append_left (by rw [HLN.out];exact hkm)]
    exact HGET.out k hkm
   ·rw [List.getElem?_append_right (by rw [HLN.out];omega),HLN.out,List.getElem?_drop,HPAST.out k (by omega),show 0 + m + (k - m) = k by omega]
    match k,hk with
    | 0,_ => rfl
    | 1,_ => rfl
    | 2,_ => rfl
    | 3,_ => rfl
    | 4,_ => rfl
  obtain ⟨d0,d1,d2,d3,d4⟩ := ha4.five
  have e0 := ha4.2 0
  have e1 := ha4.2 1
  have e2 := ha4.2 2
  have e3 := ha4.2 3
  have e4 := ha4.2 4
  have HA := Lib.hid ha4
  have HB4 := Lib.hid hB4
  generalize hf : wordAt (bytesOf s) = f at *
  have HFE := Lib.hid hf
  clear ha4 hB4 hH4 hf hH3
  go_wp2_with go_step3
  rw [fwd_ret]
  have HF : Hid (Arr5 (((((w4.setCell ⟨w.heap.size,0,none⟩ (.int .u64 (f 0 : Nat))).setCell ⟨w.heap.size,1,none⟩ (.int .u64 (f 1 : Nat))).setCell ⟨w.heap.size,2,none⟩ (.int .u64 (f 2 : Nat))).setCell ⟨w.heap.size,3,none⟩ (.int .u64 (f 3 : Nat))).setCell ⟨w.heap.size,4,none⟩ (.int .u64 (f 4 : Nat))) w.heap.size f) := HA.out.all f
  have HBF : Hid (Below w.heap.size w (((((w4.setCell ⟨w.heap.size,0,none⟩ (.int .u64 (f 0 : Nat))).setCell ⟨w.heap.size,1,none⟩ (.int .u64 (f 1 : Nat))).setCell ⟨w.heap.size,2,none⟩ (.int .u64 (f 2 : Nat))).setCell ⟨w.heap.size,3,none⟩ (.int .u64 (f 3 : Nat))).setCell ⟨w.heap.size,4,none⟩ (.int .u64 (f 4 : Nat)))) := below_five HB4.out (Nat.le_refl _) f
  generalize (((((w4.setCell ⟨w.heap.size,0,none⟩ (.int .u64 (f 0 : Nat))).setCell ⟨w.heap.size,1,none⟩ (.int .u64 (f 1 : Nat))).setCell ⟨w.heap.size,2,none⟩ (.int .u64 (f 2 : Nat))).setCell ⟨w.heap.size,3,none⟩ (.int .u64 (f 3 : Nat))).setCell ⟨w.heap.size,4,none⟩ (.int .u64 (f 4 : Nat))) = W9 at *
  obtain ⟨g0,g1,g2,g3,g4⟩ := HF.out.five
  refine bodyPost_ret (v := .tuple #[encF f,.int .i64 0]) (by simp [results,Tryz.results137,go_sem,g0,g1,g2,g3,g4,encF]) rfl ⟨?_,HBF.out⟩
  rw [HW.out,<- HFE.out];rfl
end
section
open Go.RowKit
theorem wpList_wanted {P : Program} {w : World} {ops : Array Oper} {rest : List Oper} {o : Oper} {a : Act} {Q : Exit -> Act -> World -> Prop} (hw : Region.wanted o (yielded ops a.tmps) = true)
  (h : ∀ K : Act -> World -> Prop,(∀ a w,wpList P ops Q rest a w -> K a w) -> o.wp P a w K Q) : wpList P ops Q (o :: rest) a w :=
 wpList_step fun K hK => by rw [if_pos hw];exact h K hK
theorem wpList_append_row {P : Program} (w : World) {ops : Array Oper} {rest : List Oper} {o : Oper} {a : Act} {Q : Exit -> Act -> World -> Prop} (hgd : Region.wanted o (yielded ops a.tmps) = true) (s x : Operand) (t : TypeId)
  (ho : o.op = .call { callee := .builtin .append,args := #[s,x],argTypes := #[t,t] })
  (base : Nat) (e : TypeId) (i : TypeInfo) (z : Value) (bytes : Nat) (ht : P.underlying t = some (.slice e)) (hi : P.info? e = some i) (hz : i.zero = some z)
  (hsize : i.size = 1) (hby : i.bytes = bytes) (hzs : z.cells.size = 1)
  (v : Value) (n : Nat) (xs : List Value) (hs : a.eval s = v) (hown : w.ownsRow base e 1 v n xs)
  (A : Option Addr) (m c : Nat) (news : List Value) (hx : a.eval x = .slice A m c) (hl : news.length = m) (hr : RowAt w A news) (h1 : ∀ u ∈ news,u.oneCell' = true)
  (h63 : n + m <= maxLen) (hbytes : (n + m) * bytes <= 140737488355328) (hbase : base <= w.heap.size)
  (h : ∀ v' w',w'.ownsRow base e 1 v' (n + m) (xs ++ news) -> w.grownBy w' v.ownBlock -> wpList P ops Q rest (a.put o.dst v') w') : wpList P ops Q (o :: rest) a w := by
 refine wpList_wanted hgd fun K hK => ?_
 rcases Nat.eq_zero_or_pos m with h0 | h0
 ·subst h0
  have hn : news = [] := List.eq_nil_of_length_eq_zero hl
  subst hn
  cases A with
  | none =>
   have hrun : (Builtin.append_ #[t,t] o.type #[v,.slice none 0 c]).run P w = .ok v w := by
    rcases hown.2 with ⟨rfl,rfl⟩ | ⟨g,cap,cur,rfl,_,_,hnc,_⟩
    ·simp [Builtin.append_,run_underlying ht,sizeOf,typeInfo,hi,Builtin.lenOf,Builtin.firstCells]
    ·simp [Builtin.append_,run_underlying ht,sizeOf,typeInfo,hi,Builtin.lenOf,Builtin.firstCells,hnc,storeCells]
   unfold Oper.wp
   simp [execOp,ho,resolve,invoke,builtin,hs,hx,hrun,Result.andThen]
   exact hK _ _ (h _ _ (by simpa using hown) ⟨rfl,rfl,rfl,Nat.le_refl _,fun _ _ _ => rfl⟩)
  | some ad => exact wp_append_own w s x t ho base e i z 1 bytes ht hi hz hsize hby hzs (by decide) v n xs hs hown ad 0 c [] hx rfl (fun j u hu => by simp at hu) h1 h63 hbytes hbase fun v' w' h2 h3 _ => hK _ _ (h v' w' h2 h3)
 ·obtain ⟨b,off,rfl,_,hcl⟩ := hr (by omega)
  refine wp_append_own w s x t ho base e i z 1 bytes ht hi hz hsize hby hzs (by decide) v n xs hs hown ⟨b,off,none⟩ m c news hx (by omega) (fun j u hu => ?_) h1 h63 hbytes hbase fun v' w' h2 h3 _ => hK _ _ (h v' w' h2 h3)
  have e : ((⟨b,off,none⟩ : Addr).add j) = ⟨b,off + j,none⟩ := by
   unfold Addr.add
   split <;> simp_all
  rw [e];exact hcl j u hu
end
end Go.Proofs.YtdpooagnbmpinaaGreatDoor
