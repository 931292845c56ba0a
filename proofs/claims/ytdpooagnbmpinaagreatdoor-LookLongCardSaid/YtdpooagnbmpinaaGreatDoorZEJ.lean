import Derived.Test.YtdpooagnbmpinaaGreatDoorZEH
import Derived.Test.YtdpooagnbmpinaaGreatDoorZEC
namespace Go.Proofs.YtdpooagnbmpinaaGreatDoor
section
open Go.RowKit
attribute [local go_sem] Oper.semAt_some
variable {R : Nat} {FA : Option Addr} {nf cf : Nat} {fed ats : List Nat}
theorem sizeP_le {fed ats : List Nat} {top size : Nat} {l : List Nat} (h : sizeP fed top ats = .val size l) : size <= 448 := by
 obtain ⟨w,l1,_,h2⟩ := bind_val h
 split at h2
 ·cases h2;assumption
 ·cases h2
theorem Tryz.infoBool : (Tryz.prog.info? 4).map (fun i => (i.zero,i.size,i.bytes)) = some (some (.bool false),1,1) := by kernel_rfl
theorem Tryz.infoW8 : (Tryz.prog.info? 136).map (fun i => (i.zero,i.size,i.bytes)) = some (some (.agg #[.int .u64 0,.int .u64 0,.int .u64 0,.int .u64 0,.int .u64 0,.int .u64 0,.int .u64 0,.int .u64 0]),8,64) := by kernel_rfl
theorem made_get (z : Array Value) (n i : Nat) (v : Value) (hi : i < n) (hz : z[i % z.size]! = v) : (madeCells z n)[i]? = some v := by
 unfold madeCells
 rw [Array.getElem?_map,Array.getElem?_range,if_pos hi,Option.map_some,hz]
theorem made_cells (z : Array Value) (n : Nat) (t : TypeId) (W : World) (f : Nat -> Value) (hz : ∀ i,i < n -> z[i % z.size]! = f i) : CellsAt (W.alloc (.cells (madeCells z n) t)) W.heap.size n f :=
 cellsAt_new _ _ _ _ _ fun i hi => made_get z n i _ hi (hz i hi)
theorem make_bools (N : Nat) (hN : N <= 100000) (W : World) : (Instr.makeSlice 132 (.int .i64 N) (.int .i64 N)).run Tryz.prog W = .ok (.slice (some ⟨W.heap.size,0,none⟩) N N) (W.alloc (.cells (madeCells #[.bool false] N) 4)) := by
 obtain ⟨i0,hi,hz0,hz1,hz2⟩ := info_parts Tryz.infoBool
 have := run_make (P := Tryz.prog) W 132 4 i0 _ (by kernel_rfl) hi hz0 .i64 .i64 N N (by omega) (Int.le_refl _) (by rw [hz2];omega) (by omega)
 rw [this,hz1]
 simp [Value.cells]
theorem make_bytes (N : Nat) (hN : N <= 100000) (W : World) : (Instr.makeSlice 26 (.int .i64 N) (.int .i64 N)).run Tryz.prog W = .ok (.slice (some ⟨W.heap.size,0,none⟩) N N) (W.alloc (.cells (madeCells #[.int .u8 0] N) 5)) := by
 obtain ⟨i0,hi,hz0,hz1,hz2⟩ := info_parts Tryz.infoU8
 have := run_make (P := Tryz.prog) W 26 5 i0 _ (by kernel_rfl) hi hz0 .i64 .i64 N N (by omega) (Int.le_refl _) (by rw [hz2];omega) (by omega)
 rw [this,hz1]
 simp [Value.cells]
theorem make_lines (N : Nat) (hN : N <= 100000) (W : World) : (Instr.makeSlice 135 (.int .i64 N) (.int .i64 N)).run Tryz.prog W = .ok (.slice (some ⟨W.heap.size,0,none⟩) N N) (W.alloc (.cells (madeCells #[.int .u64 0,.int .u64 0,.int .u64 0,.int .u64 0,.int .u64 0,.int .u64 0,.int .u64 0,.int .u64 0] (N * 8)) 136)) := by
 obtain ⟨i0,hi,hz0,hz1,hz2⟩ := info_parts Tryz.infoW8
 have := run_make (P := Tryz.prog) W 135 136 i0 _ (by kernel_rfl) hi hz0 .i64 .i64 N N (by omega) (Int.le_refl _) (by rw [hz2];omega) (by omega)
 rw [this,hz1]
 simp [Value.cells]
theorem loadsP_mem (fed : List Nat) : ∀ (n p : Nat) (acc ats ws l : List Nat),loadsP fed n p acc ats = .val ws l -> ∀ x ∈ ws,x ∈ acc ∨ x ∈ fed
 | 0,p,acc,ats,ws,l,h,x,hx => by cases h;exact .inl hx
 | n + 1,p,acc,ats,ws,l,h,x,hx => by
  obtain ⟨y,l1,h1,h2⟩ := bind_val h
  rcases loadsP_mem fed n (p + 1) (acc ++ [y]) l1 ws l h2 x hx with h3 | h3
  ·rcases List.mem_append.1 h3 with h4 | h4
   ·exact .inl h4
   ·rw [List.mem_singleton.1 h4]
    exact .inr (loadP_val h1).2
  ·exact .inr h3
theorem partP_words {fed ats ws l : List Nat} {top k : Nat} (h : partP fed top k ats = .val ws l) (hx : ∀ x ∈ fed,x < 18446744073709551616) : ws.length = 8 ∧ ∀ x ∈ ws,x < 18446744073709551616 := by
 obtain ⟨y,l1,_,h2⟩ := bind_val h
 obtain ⟨p,l2,_,h3⟩ := bind_val h2
 split at h3
 ·cases h3
  exact ⟨List.length_replicate ..,fun x hx => by rw [List.eq_of_mem_replicate hx];omega⟩
 ·refine ⟨by have := loadsP_len _ _ _ _ _ _ _ h3;simpa using this,fun x h => ?_⟩
  rcases loadsP_mem _ _ _ _ _ _ _ h3 x h with h4 | h4
  ·cases h4
  ·exact hx x h4
def cellsB (A : Option Addr) (m c : Nat) : Nat -> Value
 | 0 => .int .i64 0
 | 1 => .int .i64 0
 | 2 => .int .i64 0
 | 3 => .int .i64 0
 | 4 => .slice none 0 0
 | _ => .slice A m c
def readW (W : World) (k l t : Int) (c1 : Array Value) : World :=
 ((W.alloc (.cells #[.int .i64 k,.int .i64 l,.int .i64 t] 46)).alloc (.cells c1 28)).alloc (.cells #[.int .i64 0,.int .i64 0,.int .i64 0,.int .i64 0,.slice none 0 0,.slice none 0 0] 33)
section
variable (W : World) (k l t : Int) (c1 : Array Value)
theorem readW_size : (readW W k l t c1).heap.size = W.heap.size + 3 := by simp [readW]
theorem readW_below : Below W.heap.size W (readW W k l t c1) := ((((Below.refl _ _).alloc (Nat.le_refl _) _).alloc (by simp) _).alloc (by simp;omega) _)
theorem readW_top : (readW W k l t c1).cell? ⟨W.heap.size,2,none⟩ = some (.int .i64 t) := by
 have b1 : Below (W.heap.size + 1) (W.alloc (.cells #[.int .i64 k,.int .i64 l,.int .i64 t] 46)) (readW W k l t c1) := ((Below.refl _ _).alloc (by simp) _).alloc (by simp) _
 exact (b1.cell (p := ⟨W.heap.size,2,none⟩) (by show W.heap.size < _;omega)).trans (cell_new _ _ _ 2 _ rfl)
theorem readW_op (i : Nat) (v : Value) (h : c1[i]? = some v) : (readW W k l t c1).cell? ⟨W.heap.size + 1,i,none⟩ = some v := by
 have b1 : Below (W.heap.size + 2) ((W.alloc (.cells #[.int .i64 k,.int .i64 l,.int .i64 t] 46)).alloc (.cells c1 28)) (readW W k l t c1) := (Below.refl _ _).alloc (by simp) _
 have e := cell_new (W.alloc (.cells #[.int .i64 k,.int .i64 l,.int .i64 t] 46)) c1 28 i v h
 rw [show (W.alloc (.cells #[.int .i64 k,.int .i64 l,.int .i64 t] 46)).heap.size = W.heap.size + 1 from by simp] at e
 exact (b1.cell (p := ⟨W.heap.size + 1,i,none⟩) (by show W.heap.size + 1 < _;omega)).trans e
theorem readW_res : CellsAt (readW W k l t c1) (W.heap.size + 2) 6 (cellsR 0 0 0 0) := by
 have e := cellsAt_new ((W.alloc (.cells #[.int .i64 k,.int .i64 l,.int .i64 t] 46)).alloc (.cells c1 28)) #[.int .i64 0,.int .i64 0,.int .i64 0,.int .i64 0,.slice none 0 0,.slice none 0 0] 33 6 (cellsR 0 0 0 0) fun i hi => match i,hi with | 0,_ => rfl | 1,_ => rfl | 2,_ => rfl | 3,_ => rfl | 4,_ => rfl | 5,_ => rfl
 rw [show ((W.alloc (.cells #[.int .i64 k,.int .i64 l,.int .i64 t] 46)).alloc (.cells c1 28)).heap.size = W.heap.size + 2 from by simp] at e
 exact e
end
structure ReadB (R W0 : Nat) (top a n : Int) (V : World) : Prop where
 top : V.cell? ⟨W0,2,none⟩ = some (.int .i64 top)
 at_ : V.cell? ⟨W0 + 1,3,none⟩ = some (.int .i64 a)
 n : V.cell? ⟨W0 + 1,4,none⟩ = some (.int .i64 n)
 res : CellsAt V (W0 + 2) 6 (cellsR 0 0 0 0)
 lt : R < W0
theorem ReadB.ub {R W0 : Nat} {top a n : Int} {V V' : World} (h : ReadB R W0 top a n V) (hb : UB R (W0 + 3) V V') : ReadB R W0 top a n V' :=
 ⟨(hb.cell (by omega) (by have := h.lt;omega)).trans h.top,(hb.cell (by omega) (by have := h.lt;omega)).trans h.at_,(hb.cell (by omega) (by have := h.lt;omega)).trans h.n,h.res.ub hb (by omega) (by have := h.lt;omega),h.lt⟩
def wantUpto (a i j : Nat) : Bool := decide (0 < i ∧ a / 64 <= j ∧ j <= (a + i - 1) / 64)
theorem wantUpto_zero (a j : Nat) : wantUpto a 0 j = false := by unfold wantUpto;simp
theorem wantUpto_hit (a i : Nat) : wantUpto a (i + 1) ((a + i) / 64) = true := by
 unfold wantUpto;rw [decide_eq_true_iff];omega
theorem wantUpto_miss (a i j : Nat) (h : j ≠ (a + i) / 64) : wantUpto a (i + 1) j = wantUpto a i j := by
 unfold wantUpto;rw [decide_eq_decide];omega
structure ReadI (R : Nat) (FA : Option Addr) (nf cf : Nat) (fed : List Nat) (W : World) (top a n : Int) (l : List Nat) (Wb N : Nat) (f : Nat -> Bool) (V : World) : Prop where
 rd : RuAt R FA nf cf fed l.length V
 ub : UB R W.heap.size W V
 bx : ReadB R W.heap.size top a n V
 cel : CellsAt V Wb N (fun j => .bool (f j))
 lt : Wb < V.heap.size
theorem ReadI.mark {W V : World} {top n : Int} {a i Wb N : Nat} {l : List Nat} (h : ReadI R FA nf cf fed W top a n l Wb N (wantUpto a i) V) (hO : ∀ b,W.heap.size <= b -> OffU R FA nf b) (hWb : W.heap.size + 3 <= Wb) (hj : (a + i) / 64 < N) :
  ReadI R FA nf cf fed W top a n l Wb N (wantUpto a (i + 1)) (V.setCell ⟨Wb,(a + i) / 64,none⟩ (.bool true)) := by
 have hub : UB R (W.heap.size + 3) V (V.setCell ⟨Wb,(a + i) / 64,none⟩ (.bool true)) := (UB.refl _ _ _).set (.inl hWb)
 refine ⟨h.rd.set (hO _ (by omega)),h.ub.trans (hub.mono (by omega)),h.bx.ub hub,?_,by simpa [World.setCell] using h.lt⟩
 refine cells_congr (h.cel.upd (i := (a + i) / 64) (v := .bool true) hj) fun j _ => ?_
 by_cases e : j = (a + i) / 64
 ·subst e
  rw [wantUpto_hit];simp
 ·rw [wantUpto_miss _ _ _ e];simp [e]
def putFrom (W : World) (X o : Nat) (f : Nat -> Value) : Nat -> World
 | 0 => W
 | k + 1 => (putFrom W X o f k).setCell ⟨X,o + k,none⟩ (f k)
theorem putFrom_cells {W : World} {X o M : Nat} {f g : Nat -> Value} (h : CellsAt W X M g) : ∀ n,o + n <= M -> CellsAt (putFrom W X o f n) X M (fun j => if o <= j ∧ j < o + n then f (j - o) else g j)
 | 0,_ => cells_congr h fun j _ => by rw [if_neg (by omega)]
 | n + 1,hn => by
  refine cells_congr ((putFrom_cells (f := f) h n (by omega)).upd (i := o + n) (v := f n) (by omega)) fun j _ => ?_
  by_cases e : j = o + n
  ·subst e
   rw [if_pos rfl,if_pos (by omega),Nat.add_sub_cancel_left]
  ·rw [if_neg e]
   by_cases e2 : o <= j ∧ j < o + n
   ·rw [if_pos e2,if_pos (by omega)]
   ·rw [if_neg e2,if_neg (by omega)]
theorem putFrom_ub {R B X o : Nat} {f : Nat -> Value} {W0 W : World} (h : UB R B W0 W) (hX : B <= X) : ∀ n,UB R B W0 (putFrom W X o f n)
 | 0 => h
 | n + 1 => (putFrom_ub h hX n).set (.inl hX)
theorem putFrom_ru {R X o n0 : Nat} {FA : Option Addr} {nf cf : Nat} {fed : List Nat} {f : Nat -> Value} {W : World} (h : RuAt R FA nf cf fed n0 W) (hX : OffU R FA nf X) : ∀ n,RuAt R FA nf cf fed n0 (putFrom W X o f n)
 | 0 => h
 | n + 1 => (putFrom_ru h hX n).set hX
theorem putFrom_size {X o : Nat} {f : Nat -> Value} {W : World} : ∀ n,(putFrom W X o f n).heap.size = W.heap.size
 | 0 => rfl
 | n + 1 => by rw [putFrom];simpa [World.setCell] using putFrom_size n
theorem getF_append_left (l r : List Nat) (j : Nat) (h : j < l.length) : getF (l ++ r) j = getF l j := by
 unfold getF
 rw [List.getD_eq_getElem?_getD,List.getD_eq_getElem?_getD,List.getElem?_append_left h]
theorem getF_append_right (l r : List Nat) (j : Nat) (h : l.length <= j) : getF (l ++ r) j = getF r (j - l.length) := by
 unfold getF
 rw [List.getD_eq_getElem?_getD,List.getD_eq_getElem?_getD,List.getElem?_append_right h]
theorem getF_over (l : List Nat) (j : Nat) (h : l.length <= j) : getF l j = 0 := by
 unfold getF
 rw [List.getD_eq_getElem?_getD,List.getElem?_eq_none h];rfl
theorem getF_zeros (l : List Nat) (k j : Nat) : getF (l ++ List.replicate k 0) j = getF l j := by
 by_cases h : j < l.length
 ·exact getF_append_left _ _ _ h
 ·rw [getF_append_right _ _ _ (by omega),getF_over l j (by omega)]
  unfold getF
  rw [List.getD_eq_getElem?_getD,List.getElem?_replicate]
  split <;> rfl
theorem flat8 : ∀ acc : List (List Nat),(∀ ws ∈ acc,ws.length = 8) -> acc.flatten.length = 8 * acc.length
 | [],_ => rfl
 | ws :: acc,h => by
  rw [List.flatten_cons,List.length_append,flat8 acc (fun x hx => h x (List.mem_cons_of_mem _ hx)),h ws (List.mem_cons_self ..),List.length_cons];omega
structure ReadL (R : Nat) (FA : Option Addr) (nf cf : Nat) (fed : List Nat) (W : World) (top a n : Int) (l : List Nat) (Wb Lb N : Nat) (wt : Nat -> Bool) (acc : List (List Nat)) (V : World) : Prop where
 rd : ReadI R FA nf cf fed W top a n l Wb N wt V
 lin : CellsAt V Lb (N * 8) (wordsC acc.flatten)
 lt : Lb < V.heap.size
 len : l.length <= nf
 eig : ∀ ws ∈ acc,ws.length = 8 ∧ ∀ x ∈ ws,x < 18446744073709551616
theorem ReadL.zero {W V : World} {top a n : Int} {l : List Nat} {Wb Lb N : Nat} {wt : Nat -> Bool} {acc : List (List Nat)} (h : ReadL R FA nf cf fed W top a n l Wb Lb N wt acc V) : ReadL R FA nf cf fed W top a n l Wb Lb N wt (acc ++ [List.replicate 8 0]) V :=
 ⟨h.rd,cells_congr h.lin fun j _ => by simp only [wordsC,List.flatten_append,List.flatten_cons,List.flatten_nil,List.append_nil];rw [getF_zeros],h.lt,h.len,fun ws hw => by
  rcases List.mem_append.1 hw with h1 | h1
  ·exact h.eig ws h1
  ·rw [List.mem_singleton.1 h1]
   exact ⟨List.length_replicate ..,fun x hx => by rw [List.eq_of_mem_replicate hx];omega⟩⟩
theorem ReadL.put {W V V2 : World} {top a n : Int} {l l2 ws : List Nat} {Wb Lb N : Nat} {wt : Nat -> Bool} {acc : List (List Nat)} (h : ReadL R FA nf cf fed W top a n l Wb Lb N wt acc V) (hO : ∀ b,W.heap.size <= b -> OffU R FA nf b) (hWb : W.heap.size + 3 <= Wb) (hLb : Wb < Lb) (hR : R < W.heap.size) (hk : acc.length < N)
  (h2 : RuAt R FA nf cf fed l2.length V2) (hu : UB R V.heap.size V V2) (hl : l2.length <= nf) (hw : ws.length = 8) (hx : ∀ x ∈ ws,x < 18446744073709551616) :
  ReadL R FA nf cf fed W top a n l2 Wb Lb N wt (acc ++ [ws]) (putFrom V2 Lb (acc.length * 8) (wordsC ws) 8) := by
 have hfl := flat8 acc fun x hx => (h.eig x hx).1
 have hs := hu.size
 have hu3 := h.rd.ub.size
 have hl1 := h.lt
 have h1 := h.rd.lt
 have hub : UB R (W.heap.size + 3) V (putFrom V2 Lb (acc.length * 8) (wordsC ws) 8) := putFrom_ub (hu.mono (by omega)) (by omega) 8
 refine ⟨⟨putFrom_ru h2 (hO _ (by omega)) 8,h.rd.ub.trans (hub.mono (by omega)),h.rd.bx.ub hub,?_,by rw [putFrom_size];omega⟩,?_,by rw [putFrom_size];omega,hl,fun x hx' => ?_⟩
 ·exact (h.rd.cel.ub (putFrom_ub (B := Lb) (X := Lb) (o := acc.length * 8) (f := wordsC ws) (hu.mono (by omega)) (Nat.le_refl _) 8) (by omega) (by omega))
 ·refine cells_congr (putFrom_cells (h.lin.ub hu (by omega) (by omega)) 8 (by omega)) fun j _ => ?_
  simp only [wordsC,List.flatten_append,List.flatten_cons,List.flatten_nil,List.append_nil]
  by_cases e1 : j < acc.length * 8
  ·rw [if_neg (by omega),getF_append_left _ _ _ (by omega)]
  ·rw [getF_append_right _ _ _ (by omega),hfl]
   by_cases e2 : j < acc.length * 8 + 8
   ·rw [if_pos (by omega),show j - 8 * acc.length = j - acc.length * 8 from by omega]
   ·rw [if_neg (by omega),getF_over acc.flatten j (by omega),getF_over ws _ (by omega)]
 ·rcases List.mem_append.1 hx' with h1 | h1
  ·exact h.eig x h1
  ·rw [List.mem_singleton.1 h1]
   exact ⟨hw,hx⟩
theorem flat_get : ∀ (acc : List (List Nat)) (k i : Nat) (ws : List Nat),(∀ x ∈ acc,x.length = 8) -> acc[k]? = some ws -> i < 8 -> getF acc.flatten (k * 8 + i) = getF ws i
 | [],k,i,ws,_,h,_ => by simp at h
 | x :: acc,0,i,ws,hl,h,hi => by
  cases h
  rw [List.flatten_cons,getF_append_left _ _ _ (by rw [hl _ (List.mem_cons_self ..)];omega)]
  simp
 | x :: acc,k + 1,i,ws,hl,h,hi => by
  have hx := hl _ (List.mem_cons_self ..)
  rw [List.flatten_cons,getF_append_right _ _ _ (by omega),hx,show (k + 1) * 8 + i - 8 = k * 8 + i from by omega]
  exact flat_get acc k i ws (fun y hy => hl y (List.mem_cons_of_mem _ hy)) h hi
theorem flatMap_take {acc : List (List Nat)} {k : Nat} {ws : List Nat} (h : acc[k]? = some ws) : (acc.take (k + 1)).flatMap chunkB = (acc.take k).flatMap chunkB ++ bytesL ws := by
 rw [List.take_add_one,h]
 simp [chunkB,bytesL]
theorem fileRead_own (bs : List UInt8) (A : Option Addr) (k c size base a m : Nat) (w : World) (h : w.ownsRow base 5 1 (.slice A k c) k (bs.map encB)) (hs : size <= k) (h4 : size <= 448) (ha : a < 9223372036854775808) (hm : m < 9223372036854775808) :
  Calls Tryz.prog 65 #[.slice A size c,.int .i64 a,.int .i64 m] w fun e w' => ∃ v,e = .returned (.tuple #[v,.int .i64 0]) ∧ Hid (FreshB w.heap.size w' (((bs.take size).drop a).take m) v) ∧ Below w.heap.size w w' := by
 have hbl : bs.length = k := by have := h.1;rw [List.length_map] at this;omega
 have hro := row_of_own h
 rcases h.2 with ⟨h1,h2⟩ | ⟨g,cap,cur,h1,_,_,h2,h3,_⟩
 ·cases h1
  obtain rfl : size = 0 := by omega
  have := fileRead_nil a m w ha hm
  simpa using this
 ·cases h1
  refine fileRead_any (bs.take size) g 0 size c a m w (by rw [List.length_take];omega) h4 (by omega) h3 ha hm ?_
  rw [List.map_take]
  exact hro.take size
theorem own_kind {w : World} {base : Nat} {e : TypeId} {A : Option Addr} {k c : Nat} {xs : List Value} (h : w.ownsRow base e 1 (.slice A k c) k xs) : k <= c ∧ ((A = none ∧ k = 0 ∧ c = 0) ∨ ∃ g,A = some ⟨g,0,none⟩) := by
 rcases h.2 with ⟨h1,h2⟩ | ⟨g,cap,cur,h1,_,_,h2,h3,_⟩
 ·cases h1;exact ⟨by omega,.inl ⟨rfl,h2,rfl⟩⟩
 ·cases h1;exact ⟨h2,.inr ⟨g,rfl⟩⟩
set_option maxRecDepth 400000 in
set_option maxHeartbeats 8000000 in
theorem lread_file (lk top : Nat) (k : Int) (p d : ByteArray) (a n : Nat) (A : Option Addr) (m c : Nat) (W : World) (htop : top <= 100000) (ha : a < 9223372036854775808) (hn : n < 9223372036854775808) (hl : ats.length <= nf) (hnf : nf <= 20000) (hx64 : ∀ x ∈ fed,x < 18446744073709551616) (h : RuAt R FA nf cf fed ats.length W) :
  Calls Tryz.prog 36 #[.pointer (some ⟨R,0,none⟩),.agg #[.int .i64 (1 : Nat),.int .i64 lk,.int .i64 top],opV k p d a n A m c] W (ReadsR R FA nf cf fed W (readEF fed (1,lk,top) a n ats)) := by
 have HE : Hid (readEF fed (1,lk,top) a n ats = readE fed top a n ats) := rfl
 obtain ⟨W0,hW0⟩ : ∃ W0,readW W 1 lk top #[.int .i64 k,.string p,.string d,.int .i64 a,.int .i64 n,.slice A m c] = W0 := ⟨_,rfl⟩
 have hb0 : Below W.heap.size W W0 := by rw [<- hW0];exact readW_below ..
 have hs0 : W0.heap.size = W.heap.size + 3 := by rw [<- hW0];exact readW_size ..
 have HB0 : Hid (ReadB R W.heap.size top a n W0) := by
  rw [Hid,<- hW0]
  exact ⟨readW_top ..,readW_op _ _ _ _ _ 3 _ rfl,readW_op _ _ _ _ _ 4 _ rfl,readW_res ..,h.lt⟩
 have HM := Lib.hid (fun b => lmust_any b 204)
 have HS := Lib.hid (lsize_any (R := R) (FA := FA) (nf := nf) (cf := cf) (fed := fed) (ats := ats) top W0 htop hl (by omega) hx64 (h.below hb0))
 have HU0 : Hid (UB R W.heap.size W W0) := UB.of_below hb0
 have HX := Lib.hid hx64
 have HFL := Lib.hid h.fedl
 have HOF := Lib.hid (fun b (hb : W.heap.size <= b) => h.off hb)
 have hRl := h.lt
 have HCH := Lib.hid (fun n W hn => chunksN_any n hn W)
 clear h hx64 hb0
 unfold readW at hW0
 have HW0 := Lib.hid hW0
 clear hW0
 unfold opV
 go_enter Tryz.func36,Tryz.ntmps36
 go_wp2_with fail
 apply wp_scope_straight
 go_wp2_with (first
  | go_step3
  | (go_at_call 37;refine (HM.out _ _).mono ?_;rintro e w' ⟨rfl,rfl⟩))
 rw [HW0.out]
 refine reads_case HS.out ?_ ?_
 ·intro o l w2 hr hb hu
  go_wp2_with go_step3
  exact ⟨rfl,endsR_stop (by rw [HE.out,readE,hr.out];rfl) hb.out (HU0.out.trans (hu.out.mono (by omega)))⟩
 ·intro size l w2 hr hb hu
  have hsz : size <= 448 := sizeP_le hr.out
  obtain ⟨N,hN⟩ : ∃ N,(size + 63) / 64 = N := ⟨_,rfl⟩
  have hN7 : N <= 7 := by omega
  have HRE : Hid (readEF fed (1,lk,top) a n ats = (partsP (wantedB size a n) fed top N 0 [] l).bind fun l ats => .val ⟨0,0,0,0,[],(((l.flatMap chunkB).take size).drop a).take n⟩ ats) := by
   rw [Hid,HE.out,readE,hr.out,<- hN];rfl
  have HCH2 := Lib.hid (fun W => HCH.out size W hsz)
  rw [hN] at HCH2
  have hlen : l.length <= nf := by rw [<- HFL.out];exact (Good.size top).len fed ats size l (by rw [HFL.out];exact hl) hr.out
  clear hr HE HS
  have HB1 := Lib.hid (HB0.out.ub (hu.out.mono (by omega)))
  have HU1 := Lib.hid (HU0.out.trans (hu.out.mono (by omega)))
  have hs1 : W.heap.size + 3 <= w2.heap.size := by have := hu.out.size;omega
  have hmk := fun W => make_bools N (by omega) W
  clear hu HU0 HB0 HW0
  go_wp2_with (first
   | go_step3
   | (go_at_call 64;refine (HCH2.out _).mono ?_;rintro e w2 ⟨rfl,rfl⟩))
  obtain ⟨V1,hV1⟩ : ∃ V1,w2.alloc (.cells (madeCells #[.bool false] N) 4) = V1 := ⟨_,rfl⟩
  have HCW : Hid (CellsAt V1 w2.heap.size N (fun _ => .bool false)) := by rw [Hid,<- hV1];exact made_cells _ _ _ _ _ fun i _ => by simp [Nat.mod_one]
  have hb1 : Below w2.heap.size w2 V1 := by rw [<- hV1];exact (Below.refl _ _).alloc (Nat.le_refl _) _
  have hsV1 : V1.heap.size = w2.heap.size + 1 := by rw [<- hV1];simp
  have HR1 := Lib.hid (hb.out.below hb1)
  have HU2 := Lib.hid (HU1.out.trans ((UB.of_below hb1).mono (by omega)))
  have HB2 := Lib.hid (HB1.out.ub ((UB.of_below hb1).mono (by omega)))
  have hmx : Tryz.prog.follows .mixedOrders = true := by kernel_rfl
  have hmz := fun W => make_bytes size (by omega) W
  have hS0 : V1.drew.cell? ⟨W.heap.size + 1,3,none⟩ = some (.int .i64 a) ∧ V1.drew.cell? ⟨W.heap.size + 1,4,none⟩ = some (.int .i64 n) := ⟨HB2.out.at_,HB2.out.n⟩
  rw [hV1]
  clear hV1 hb1 HB1 HU1 hb
  refine (wpIn_wide (n := 10)).1 ?_
  refine whichever_region (fun w2 => w2.cell? ⟨W.heap.size + 1,3,none⟩ = some (.int .i64 a) ∧ w2.cell? ⟨W.heap.size + 1,4,none⟩ = some (.int .i64 n)) [] hmx ?_
  refine whichever_take 0 (.int .i64 size) [] rfl (by kernel_rfl) (fun _ _ _ h => h) hS0 (by rfl) (fun w hw => ?_) ?_
  ·obtain ⟨hw1,hw2⟩ := hw
   constructor <;> go_simp
  refine whichever_take 2 (.pointer (some ⟨W.heap.size + 1,3,none⟩)) [] rfl (by kernel_rfl) (fun _ _ _ h => h) hS0 (by rfl) (fun w hw => ?_) ?_
  ·obtain ⟨hw1,hw2⟩ := hw
   constructor <;> go_simp
  refine whichever_take 3 (.int .i64 a) [] rfl (by kernel_rfl) (fun _ _ _ h => h) hS0 (by rfl) (fun w hw => ?_) ?_
  ·obtain ⟨hw1,hw2⟩ := hw
   constructor <;> go_simp
  refine whichever_take 4 (.pointer (some ⟨W.heap.size + 1,4,none⟩)) [] rfl (by kernel_rfl) (fun _ _ _ h => h) hS0 (by rfl) (fun w hw => ?_) ?_
  ·obtain ⟨hw1,hw2⟩ := hw
   constructor <;> go_simp
  refine whichever_take 5 (.int .i64 n) [] rfl (by kernel_rfl) (fun _ _ _ h => h) hS0 (by rfl) (fun w hw => ?_) ?_
  ·obtain ⟨hw1,hw2⟩ := hw
   constructor <;> go_simp
  refine whichever_next 1 rfl (by kernel_rfl) (by rfl) ?_
  go_simp
  refine ⟨⟨?_,?_⟩,?_⟩
  ·exact ((((Below.refl _ V1.drew).alloc (Nat.le_refl _) _).cell (p := ⟨W.heap.size + 1,3,none⟩) (by show W.heap.size + 1 < V1.heap.size;omega)).trans hS0.1)
  ·exact ((((Below.refl _ V1.drew).alloc (Nat.le_refl _) _).cell (p := ⟨W.heap.size + 1,4,none⟩) (by show W.heap.size + 1 < V1.heap.size;omega)).trans hS0.2)
  refine whichever_next 6 rfl (by kernel_rfl) (by rfl) ?_
  go_simp
  obtain ⟨V2,hV2⟩ : ∃ V2,(V1.alloc (.cells (madeCells #[.int .u8 0] size) 5)).drew = V2 := ⟨_,rfl⟩
  have hb2 : Below V1.heap.size V1 V2 := by rw [<- hV2];exact Below.drew ((Below.refl _ _).alloc (Nat.le_refl _) _)
  have HZ : Hid (RowAt V2 (some ⟨w2.heap.size + 1,0,none⟩) ((List.replicate size (0 : UInt8)).map encB)) := by
   rw [Hid,<- hV2,<- hsV1]
   intro hp
   refine ⟨V1.heap.size,0,rfl,by simp [World.drew],fun j u hu => ?_⟩
   have hj : j < size := by have := (List.getElem?_eq_some_iff.1 hu).1;simpa using this
   rw [List.getElem?_map,List.getElem?_replicate,if_pos hj] at hu
   cases hu
   rw [Nat.zero_add]
   exact (made_cells #[.int .u8 0] size 5 V1 (fun _ => encB 0) (fun i _ => by simp [Nat.mod_one,encB])).1 j hj
  rw [hV2]
  clear hV2 hS0
  refine ⟨trivial,callsIn_wide.2 ((fileRead_any (List.replicate size 0) _ 0 size size a n V2 (by simp) hsz (Nat.le_refl _) (by unfold maxLen;omega) ha hn HZ.out).mono ?_)⟩
  rintro e V3 ⟨v,rfl,hv,hb3⟩
  obtain ⟨A3,n3,c3,rfl,hn3,hnc3,hcm3,hr3,hf3⟩ := hv
  have hbV : Below V1.heap.size V1 V3 := hb2.trans (hb3.mono hb2.size)
  have HB3 := Lib.hid (HB2.out.ub ((UB.of_below hbV).mono (by omega)))
  have hS3 : V3.cell? ⟨W.heap.size + 1,3,none⟩ = some (.int .i64 a) ∧ V3.cell? ⟨W.heap.size + 1,4,none⟩ = some (.int .i64 n) := ⟨HB3.out.at_,HB3.out.n⟩
  refine ⟨hS3,?_⟩
  refine whichever_next 7 rfl (by kernel_rfl) (by rfl) ?_
  go_simp
  refine whichever_take 8 (.slice A3 n3 c3) [] rfl (by kernel_rfl) (fun _ _ _ h => h) hS3 (by rfl) (fun w hw => ?_) ?_
  ·obtain ⟨hw1,hw2⟩ := hw
   constructor <;> go_simp
  refine whichever_take 9 (.int .i64 0) [] rfl (by kernel_rfl) (fun _ _ _ h => h) hS3 (by rfl) (fun w hw => ?_) ?_
  ·obtain ⟨hw1,hw2⟩ := hw
   constructor <;> go_simp
  refine whichever_next 10 rfl (by kernel_rfl) (by rfl) ?_
  go_simp
  refine whichever_next 11 rfl (by kernel_rfl) (by rfl) ?_
  go_simp
  refine whichever_end (by kernel_rfl) ?_
  rename_i K hK
  have HK := Lib.hid hK
  clear hK
  have HR3 := Lib.hid (HR1.out.below hbV)
  have HU3 := Lib.hid (HU2.out.trans ((UB.of_below hbV).mono (by omega)))
  have HC3 : Hid (CellsAt V3 w2.heap.size N (fun _ => .bool false)) := HCW.out.below hbV (by omega)
  have hs3 : w2.heap.size + 1 <= V3.heap.size := by have := hbV.size;omega
  have hn3' : n3 = readLen size a n := by
   rw [<- hn3,List.length_take,List.length_drop,List.length_replicate];rfl
  clear hbV hS3 hr3 hf3 hnc3 hcm3 hn3 hb3 hb2 HZ HR1 HU2 HB2 HCW hmz hmk HCH2
  obtain ⟨Wb,hWb⟩ : ∃ Wb,w2.heap.size = Wb := ⟨_,rfl⟩
  rw [hWb] at hs3 hs1 HC3
  rw [hWb]
  clear hWb hsV1
  refine HK.out _ _ ?_
  go_wp2_with (first | go_step3)
  have HI0 : Hid (ReadI R FA nf cf fed W top a n l Wb N (wantUpto a 0) V3) := ⟨HR3.out,HU3.out,HB3.out,cells_congr HC3.out (fun j _ => by rw [wantUpto_zero]),by omega⟩
  clear HR3 HU3 HB3 HC3
  go_loopw [51] (fun i wr => ∃ q : Nat,q <= n3 ∧ i = .int .i64 q ∧ ReadI R FA nf cf fed W top a n l Wb N (wantUpto a q) wr) (fun i _ => n3 - (intOf i).toNat)
  case atStart => exact ⟨0,Nat.zero_le _,rfl,HI0.out⟩
  case round =>
   obtain ⟨q,hqn,rfl,hI⟩ := hrel
   by_cases hlt : q < n3
   ·have haq : a + q < size := by unfold readLen at hn3';omega
    have hjN : (a + q) / 64 < N := by omega
    have hqd : ((a : Int) + (q : Int)).tdiv 64 = ((a + q) / 64 : Nat) := (Int.ofNat_tdiv (a + q) 64).symm
    have HI2 := Lib.hid (hI.mark HOF.out hs1 hjN)
    have hca := hI.bx.at_
    have hcw := hI.cel.1 _ hjN
    have hcf := hI.cel.2 ((a + q) / 64)
    clear hI HI0
    go_wp2_with fail
    exact ⟨⟨q + 1,by omega,by go_num,HI2.out⟩,by simp [intOf];omega⟩
   ·obtain rfl : q = n3 := by omega
    obtain ⟨wt,hwt⟩ : ∃ wt,wantUpto a q = wt := ⟨_,rfl⟩
    have hwb : wantedB size a n = wt := by
     rw [<- hwt]
     funext j
     unfold wantedB wantUpto
     rw [hn3']
    rw [hwb] at HRE
    rw [hwt] at hI
    have HI := Lib.hid hI
    have hml := fun W => make_lines N (by omega) W
    clear hI HI0 hwt hwb
    go_wp2_with (first | go_step3)
    obtain ⟨Lb,hLb⟩ : ∃ Lb,wr.heap.size = Lb := ⟨_,rfl⟩
    have hWL : Wb < Lb := by rw [<- hLb];exact HI.out.lt
    have HL0 : Hid (ReadL R FA nf cf fed W top a n l Wb Lb N wt [] (wr.alloc (.cells (madeCells #[.int .u64 0,.int .u64 0,.int .u64 0,.int .u64 0,.int .u64 0,.int .u64 0,.int .u64 0,.int .u64 0] (N * 8)) 136))) := by
     have hb : Below wr.heap.size wr (wr.alloc (.cells (madeCells #[.int .u64 0,.int .u64 0,.int .u64 0,.int .u64 0,.int .u64 0,.int .u64 0,.int .u64 0,.int .u64 0] (N * 8)) 136)) := (Below.refl _ _).alloc (Nat.le_refl _) _
     refine ⟨⟨HI.out.rd.below hb,HI.out.ub.trans ((UB.of_below hb).mono HI.out.ub.size),HI.out.bx.ub ((UB.of_below hb).mono (by omega)),HI.out.cel.below hb HI.out.lt,by simp;omega⟩,?_,by simp;omega,hlen,fun ws h => by cases h⟩
     rw [<- hLb]
     refine made_cells _ _ _ _ _ fun i _ => ?_
     have : i % 8 < 8 := Nat.mod_lt _ (by omega)
     have e : wordsC [].flatten i = .int .u64 0 := rfl
     rw [e]
     show (#[Value.int .u64 0,.int .u64 0,.int .u64 0,.int .u64 0,.int .u64 0,.int .u64 0,.int .u64 0,.int .u64 0])[i % 8]! = _
     generalize i % 8 = z at this
     match z,this with
     | 0,_ => rfl
     | 1,_ => rfl
     | 2,_ => rfl
     | 3,_ => rfl
     | 4,_ => rfl
     | 5,_ => rfl
     | 6,_ => rfl
     | 7,_ => rfl
    rw [hLb]
    clear hLb HI hml hlt hqn hn3'
    go_loopw [66] (fun i wr => ∃ (q : Nat) (acc : List (List Nat)) (l' : List Nat),q <= N ∧ acc.length = q ∧ i = .int .i64 q ∧ ReadL R FA nf cf fed W top a n l' Wb Lb N wt acc wr ∧ Hid (readEF fed (1,lk,top) a n ats = (partsP wt fed top (N - q) q acc l').bind fun l ats => .val ⟨0,0,0,0,[],(((l.flatMap chunkB).take size).drop a).take n⟩ ats)) (fun i _ => N - (intOf i).toNat)
    case atStart => exact ⟨0,[],l,Nat.zero_le _,rfl,rfl,HL0.out,HRE⟩
    case round =>
     obtain ⟨q,acc,l',hqN,hacc,rfl,hL,hq⟩ := hrel
     have HL := Lib.hid hL
     have hcw := hL.rd.cel.1
     clear hL HL0 HRE
     by_cases hlt : q < N
     ·have hcb : wr.cell? ⟨Wb,q,none⟩ = some (.bool (wt q)) := hcw q hlt
      clear hcw
      have HQ : Hid (readEF fed (1,lk,top) a n ats = (if wt q = true then (partP fed top q l').bind fun ws ats => partsP wt fed top (N - (q + 1)) (q + 1) (acc ++ [ws]) ats else partsP wt fed top (N - (q + 1)) (q + 1) (acc ++ [List.replicate 8 0]) l').bind fun l ats => .val ⟨0,0,0,0,[],(((l.flatMap chunkB).take size).drop a).take n⟩ ats) := by
       rw [Hid,hq.out,show N - q = (N - (q + 1)) + 1 from by omega];rfl
      clear hq
      cases hw : wt q with
      | false =>
       rw [hw] at hcb
       go_wp2_with (first | go_step3)
       exact ⟨⟨q + 1,acc ++ [List.replicate 8 0],l',by omega,by simp [hacc],by go_num,HL.out.zero,by rw [Hid,HQ.out,hw];rfl⟩,by simp [intOf];omega⟩
      | true =>
       rw [hw] at hcb
       have hct := HL.out.rd.bx.top
       go_wp2_with (first | go_step3)
       refine reads_case (lpart_any top q wr htop (by omega) HL.out.len (by omega) HX.out HL.out.rd.rd) ?_ ?_
       ·intro o l2 w3 hr hb hu
        go_wp2_with (first | go_step3)
        exact ⟨rfl,endsR_stop (by rw [HQ.out,hw,if_pos rfl,hr.out];rfl) hb.out (HL.out.rd.ub.trans (hu.out.mono HL.out.rd.ub.size))⟩
       ·intro ws l2 w3 hr hb hu
        have HC3 : Hid (CellsAt w3 Lb (N * 8) (fun j => .int .u64 (getF acc.flatten j : Nat))) := HL.out.lin.ub hu.out HL.out.lt (by omega)
        have c0 := HC3.out.1 (q * 8) (by omega)
        have y0 := HC3.out.2 (q * 8)
        have c1 := HC3.out.1 (q * 8 + 1) (by omega)
        have y1 := HC3.out.2 (q * 8 + 1)
        have c2 := HC3.out.1 (q * 8 + 2) (by omega)
        have y2 := HC3.out.2 (q * 8 + 2)
        have c3 := HC3.out.1 (q * 8 + 3) (by omega)
        have y3 := HC3.out.2 (q * 8 + 3)
        have c4 := HC3.out.1 (q * 8 + 4) (by omega)
        have y4 := HC3.out.2 (q * 8 + 4)
        have c5 := HC3.out.1 (q * 8 + 5) (by omega)
        have y5 := HC3.out.2 (q * 8 + 5)
        have c6 := HC3.out.1 (q * 8 + 6) (by omega)
        have y6 := HC3.out.2 (q * 8 + 6)
        have c7 := HC3.out.1 (q * 8 + 7) (by omega)
        have y7 := HC3.out.2 (q * 8 + 7)
        obtain ⟨hws,hws64⟩ : ws.length = 8 ∧ ∀ x ∈ ws,x < 18446744073709551616 := partP_words hr.out HX.out
        have hll2 : l2.length <= nf := by rw [<- HFL.out];exact (Good.part top q).len fed l' ws l2 (by rw [HFL.out];exact HL.out.len) hr.out
        obtain ⟨w4,hw4⟩ : ∃ w4,putFrom w3 Lb (acc.length * 8) (wordsC ws) 8 = w4 := ⟨_,rfl⟩
        have HL4 : Hid (ReadL R FA nf cf fed W top a n l2 Wb Lb N wt (acc ++ [ws]) w4) := by
         rw [Hid,<- hw4]
         exact HL.out.put HOF.out hs1 hWL hRl (by omega) hb.out hu.out hll2 hws hws64
        have HQ2 : Hid (readEF fed (1,lk,top) a n ats = (partsP wt fed top (N - (q + 1)) (q + 1) (acc ++ [ws]) l2).bind fun l ats => .val ⟨0,0,0,0,[],(((l.flatMap chunkB).take size).drop a).take n⟩ ats) := by
         rw [Hid,HQ.out,hw,if_pos rfl,hr.out];rfl
        unfold putFrom putFrom putFrom putFrom putFrom putFrom putFrom putFrom putFrom wordsC at hw4
        rw [hacc] at hw4
        have HW4 := Lib.hid hw4
        clear hr hb hu hw4 HL HQ HC3
        unfold encW8 wordsC
        go_wp2_with (first | go_step3)
        rw [show q * 8 + 0 = q * 8 from rfl] at HW4
        rw [HW4.out]
        exact ⟨⟨q + 1,acc ++ [ws],l2,by omega,by simp [hacc],by go_num,HL4.out,HQ2⟩,by simp [intOf];omega⟩
     ·have hqN2 : q = N := by omega
      have HFIN : Hid (readEF fed (1,lk,top) a n ats = .val ⟨0,0,0,0,[],(((acc.flatMap chunkB).take size).drop a).take n⟩ l') := by
       rw [Hid,hq.out,hqN2,Nat.sub_self];rfl
      clear hq hcw
      go_wp2_with (first | go_step3)
      clear hqN hlt HX
      have hacN : acc.length = N := by omega
      clear hacc hqN2
      obtain ⟨V5,hV5⟩ : ∃ V5,wr = V5 := ⟨_,rfl⟩
      rw [hV5] at HL
      rw [hV5]
      clear hV5
      obtain ⟨i0,hi,hz0,hz1,hz2⟩ := info_parts Tryz.infoU8
      have HE8 : Hid (∀ ws ∈ acc,ws.length = 8 ∧ ∀ x ∈ ws,x < 18446744073709551616) := HL.out.eig
      go_loopw [17,84] (fun v i wr => ∃ q2 : Nat,q2 <= N ∧ i = .int .i64 q2 ∧ wr.ownsRow V5.heap.size 5 1 v (64 * q2) (((acc.take q2).flatMap chunkB).map encB) ∧ Below V5.heap.size V5 wr) (fun _ i _ => N - (intOf i).toNat)
      case atStart => exact ⟨0,Nat.zero_le _,rfl,World.ownsRow_nil _ _ _ _,Below.refl _ _⟩
      case round =>
       obtain ⟨q2,hq2,rfl,hown,hbw⟩ := hrel
       by_cases hlt : q2 < N
       ·obtain ⟨ws,hws⟩ : ∃ ws,acc[q2]? = some ws := ⟨_,List.getElem?_eq_getElem (by omega)⟩
        obtain ⟨hw8,hw64⟩ := HE8.out ws (List.mem_of_getElem? hws)
        have HCL : Hid (∀ i,i < 8 -> wr.cell? ⟨Lb,q2 * 8 + i,none⟩ = some (.int .u64 (getF ws i : Nat))) := fun i hi => by
         refine (hbw.cell (p := ⟨Lb,q2 * 8 + i,none⟩) HL.out.lt).trans ((HL.out.lin.1 (q2 * 8 + i) (by omega)).trans ?_)
         simp only [wordsC]
         rw [flat_get acc q2 i ws (fun x hx => (HE8.out x hx).1) hws hi]
        have c0 : wr.cell? ⟨Lb,q2 * 8,none⟩ = some (.int .u64 (getF ws 0 : Nat)) := HCL.out 0 (by omega)
        have c1 : wr.cell? ⟨Lb,q2 * 8 + 1,none⟩ = some (.int .u64 (getF ws 1 : Nat)) := HCL.out 1 (by omega)
        have c2 : wr.cell? ⟨Lb,q2 * 8 + 2,none⟩ = some (.int .u64 (getF ws 2 : Nat)) := HCL.out 2 (by omega)
        have c3 : wr.cell? ⟨Lb,q2 * 8 + 3,none⟩ = some (.int .u64 (getF ws 3 : Nat)) := HCL.out 3 (by omega)
        have c4 : wr.cell? ⟨Lb,q2 * 8 + 4,none⟩ = some (.int .u64 (getF ws 4 : Nat)) := HCL.out 4 (by omega)
        have c5 : wr.cell? ⟨Lb,q2 * 8 + 5,none⟩ = some (.int .u64 (getF ws 5 : Nat)) := HCL.out 5 (by omega)
        have c6 : wr.cell? ⟨Lb,q2 * 8 + 6,none⟩ = some (.int .u64 (getF ws 6 : Nat)) := HCL.out 6 (by omega)
        have c7 : wr.cell? ⟨Lb,q2 * 8 + 7,none⟩ = some (.int .u64 (getF ws 7 : Nat)) := HCL.out 7 (by omega)
        have HJ := Lib.hid (fun b w h => fileJoin_any ws hw8 hw64 b w h)
        have HFT := Lib.hid (flatMap_take hws)
        have HO := Lib.hid hown
        have HLT := Lib.hid hown.lt
        have HBW := Lib.hid hbw
        clear hown hbw hw64
        obtain ⟨w6,hw6⟩ : ∃ w6,(wr.alloc (.cells #[.int .u64 (getF ws 0 : Nat),.int .u64 (getF ws 1 : Nat),.int .u64 (getF ws 2 : Nat),.int .u64 (getF ws 3 : Nat),.int .u64 (getF ws 4 : Nat),.int .u64 (getF ws 5 : Nat),.int .u64 (getF ws 6 : Nat),.int .u64 (getF ws 7 : Nat)] 136)).alloc (.cells #[.int .u64 (getF ws 0 : Nat),.int .u64 (getF ws 1 : Nat),.int .u64 (getF ws 2 : Nat),.int .u64 (getF ws 3 : Nat),.int .u64 (getF ws 4 : Nat),.int .u64 (getF ws 5 : Nat),.int .u64 (getF ws 6 : Nat),.int .u64 (getF ws 7 : Nat)] 136) = w6 := ⟨_,rfl⟩
        have HCN : Hid (∀ i,i < 8 -> w6.cell? ⟨wr.heap.size + 1,i,none⟩ = some (wordsC ws i)) := fun i hi => by
         have e := cell_new (wr.alloc (.cells #[.int .u64 (getF ws 0 : Nat),.int .u64 (getF ws 1 : Nat),.int .u64 (getF ws 2 : Nat),.int .u64 (getF ws 3 : Nat),.int .u64 (getF ws 4 : Nat),.int .u64 (getF ws 5 : Nat),.int .u64 (getF ws 6 : Nat),.int .u64 (getF ws 7 : Nat)] 136)) #[.int .u64 (getF ws 0 : Nat),.int .u64 (getF ws 1 : Nat),.int .u64 (getF ws 2 : Nat),.int .u64 (getF ws 3 : Nat),.int .u64 (getF ws 4 : Nat),.int .u64 (getF ws 5 : Nat),.int .u64 (getF ws 6 : Nat),.int .u64 (getF ws 7 : Nat)] 136 i (wordsC ws i) (match i,hi with | 0,_ => rfl | 1,_ => rfl | 2,_ => rfl | 3,_ => rfl | 4,_ => rfl | 5,_ => rfl | 6,_ => rfl | 7,_ => rfl)
         rw [show (wr.alloc (.cells #[.int .u64 (getF ws 0 : Nat),.int .u64 (getF ws 1 : Nat),.int .u64 (getF ws 2 : Nat),.int .u64 (getF ws 3 : Nat),.int .u64 (getF ws 4 : Nat),.int .u64 (getF ws 5 : Nat),.int .u64 (getF ws 6 : Nat),.int .u64 (getF ws 7 : Nat)] 136)).heap.size = wr.heap.size + 1 from by simp,hw6] at e
         exact e
        have HB6 : Hid (Below wr.heap.size wr w6) := by rw [Hid,<- hw6];exact ((Below.refl _ _).alloc (Nat.le_refl _) _).alloc (by simp) _
        have hs6 : w6.heap.size = wr.heap.size + 2 := by rw [<- hw6];simp
        have HW6 := Lib.hid hw6
        have HL64 : Hid ((bytesL ws).length = 64) := by rw [Hid,bytesL_length,hw8]
        have hsV5 := HBW.out.size
        clear hw6
        go_wp2_with (first
         | go_step3
         | (go_at_call 67;rw [HW6.out];refine (HJ.out _ _ HCN.out).mono ?_;rintro e w7 ⟨g,cc,rfl,rfl,hg,hr7,hb7⟩;have HB7 := Lib.hid (HB6.out.trans (hb7.mono (by omega)));have HO7 := Lib.hid (owns_below HO.out HB7.out))
         | (at_builtin;refine wpList_append_own _ rfl _ _ 26 rfl V5.heap.size 5 i0 (.int .u8 0) 1 1 Tryz.underlyingBytes hi hz0 hz1 hz2 rfl (by decide) _ _ _ rfl HO7.out ⟨g,0,none⟩ 64 64 ((bytesL ws).map encB) rfl ?c1 ?c2 ?c3 ?c4 ?c5 ?c6 ?_))
        case c1 => rw [List.length_map,HL64.out]
        case c2 =>
         intro j u hj
         rw [plain_add]
         obtain ⟨b',off',e,_,h⟩ := hr7.get hj
         cases e
         exact h
        case c3 => intro u hu;obtain ⟨x,_,rfl⟩ := List.mem_map.1 hu;rfl
        case c4 => unfold maxLen;omega
        case c5 => omega
        case c6 => have := HB7.out.size;omega
        intro v' w8 hown' hgrow _
        have hb8 : Below V5.heap.size V5 w8 := (HBW.out.trans (HB7.out.mono hsV5)).grown hgrow (by have := HB7.out.size;omega) (fun j e => (HLT.out j e).1)
        have HO8 : Hid (w8.ownsRow V5.heap.size 5 1 v' (64 * (q2 + 1)) (((acc.take (q2 + 1)).flatMap chunkB).map encB)) := by
         rw [Hid,HFT.out,List.map_append];exact hown'
        clear hgrow hown' HO HO7 HLT HB7 HB6 HBW HW6 HCN HJ hr7
        go_wp2_with (first | go_step3)
        exact ⟨⟨q2 + 1,by omega,by go_num,HO8.out,hb8⟩,by simp [intOf];omega⟩
       ·have hq2N : q2 = N := by omega
        rw [hq2N,List.take_of_length_le (by omega)] at hown
        obtain ⟨A9,c9,rfl,h9c,hc9⟩ := owns_slice hown
        have HOK := Lib.hid (own_kind hown)
        have HBW := Lib.hid hbw
        have HO := Lib.hid hown
        have hsw := hbw.size
        have HB9 : Hid (ReadB R W.heap.size top a n wr) := HL.out.rd.bx.ub ((UB.of_below hbw).mono (by have := HL.out.rd.lt;omega))
        have HR9 := Lib.hid (HL.out.rd.rd.below hbw)
        have HU9 := Lib.hid (HL.out.rd.ub.trans ((UB.of_below hbw).mono HL.out.rd.ub.size))
        have hS0 : wr.drew.cell? ⟨W.heap.size + 1,3,none⟩ = some (.int .i64 a) ∧ wr.drew.cell? ⟨W.heap.size + 1,4,none⟩ = some (.int .i64 n) := ⟨HB9.out.at_,HB9.out.n⟩
        have hV5s : W.heap.size + 3 <= V5.heap.size := by have := HL.out.lt;omega
        clear hown hbw HL HE8
        go_wp2_with (first | go_step3)
        refine (wpIn_wide (n := 10)).1 ?_
        refine whichever_region (fun w2 => w2.cell? ⟨W.heap.size + 1,3,none⟩ = some (.int .i64 a) ∧ w2.cell? ⟨W.heap.size + 1,4,none⟩ = some (.int .i64 n)) [] hmx ?_
        refine whichever_take 0 (.slice A9 (64 * N) c9) [] rfl (by kernel_rfl) (fun _ _ _ h => h) hS0 (by rfl) (fun w hw => ?_) ?_
        ·obtain ⟨hw1,hw2⟩ := hw
         constructor <;> go_simp
        refine whichever_take 1 (.int .i64 size) [] rfl (by kernel_rfl) (fun _ _ _ h => h) hS0 (by rfl) (fun w hw => ?_) ?_
        ·obtain ⟨hw1,hw2⟩ := hw
         constructor <;> go_simp
        refine whichever_take 2 (.slice A9 size c9) [] rfl (by kernel_rfl) (fun _ _ _ h => h) hS0 (by rfl) (fun w hw => ?_) ?_
        ·obtain ⟨hw1,hw2⟩ := hw
         obtain ⟨hk1,⟨rfl,hk2,rfl⟩ | ⟨g9,rfl⟩⟩ := HOK.out
         ·obtain rfl : size = 0 := by omega
          constructor <;> go_simp
         ·have hsc : size <= c9 := by omega
          have hsc2 : (size : Int) <= (c9 : Int) := by omega
          constructor <;> go_simp
        refine whichever_take 3 (.pointer (some ⟨W.heap.size + 1,3,none⟩)) [] rfl (by kernel_rfl) (fun _ _ _ h => h) hS0 (by rfl) (fun w hw => ?_) ?_
        ·obtain ⟨hw1,hw2⟩ := hw
         constructor <;> go_simp
        refine whichever_take 4 (.int .i64 a) [] rfl (by kernel_rfl) (fun _ _ _ h => h) hS0 (by rfl) (fun w hw => ?_) ?_
        ·obtain ⟨hw1,hw2⟩ := hw
         constructor <;> go_simp
        refine whichever_take 5 (.pointer (some ⟨W.heap.size + 1,4,none⟩)) [] rfl (by kernel_rfl) (fun _ _ _ h => h) hS0 (by rfl) (fun w hw => ?_) ?_
        ·obtain ⟨hw1,hw2⟩ := hw
         constructor <;> go_simp
        refine whichever_take 6 (.int .i64 n) [] rfl (by kernel_rfl) (fun _ _ _ h => h) hS0 (by rfl) (fun w hw => ?_) ?_
        ·obtain ⟨hw1,hw2⟩ := hw
         constructor <;> go_simp
        refine whichever_next 7 rfl (by kernel_rfl) (by rfl) ?_
        go_simp
        have hbz : Below wr.heap.size wr wr.drew := (Below.refl _ _).drew
        refine ⟨trivial,callsIn_wide.2 ((fileRead_own (acc.flatMap chunkB) A9 (64 * N) c9 size V5.heap.size a n wr.drew (owns_below HO.out hbz) (by omega) hsz ha hn).mono ?_)⟩
        rintro e V9 ⟨v,rfl,hv,hb9⟩
        have hbx : Below wr.heap.size wr V9 := hbz.trans hb9
        have HB3 := Lib.hid (HB9.out.ub ((UB.of_below hbx).mono (by omega)))
        have hS3 : V9.cell? ⟨W.heap.size + 1,3,none⟩ = some (.int .i64 a) ∧ V9.cell? ⟨W.heap.size + 1,4,none⟩ = some (.int .i64 n) := ⟨HB3.out.at_,HB3.out.n⟩
        refine ⟨hS3,?_⟩
        refine whichever_next 8 rfl (by kernel_rfl) (by rfl) ?_
        go_simp
        refine whichever_take 9 (v) [] rfl (by kernel_rfl) (fun _ _ _ h => h) hS3 (by rfl) (fun w hw => ?_) ?_
        ·obtain ⟨hw1,hw2⟩ := hw
         constructor <;> go_simp
        refine whichever_take 10 (.int .i64 0) [] rfl (by kernel_rfl) (fun _ _ _ h => h) hS3 (by rfl) (fun w hw => ?_) ?_
        ·obtain ⟨hw1,hw2⟩ := hw
         constructor <;> go_simp
        refine whichever_next 11 rfl (by kernel_rfl) (by rfl) ?_
        go_simp
        refine whichever_next 12 rfl (by kernel_rfl) (by rfl) ?_
        go_simp
        refine whichever_end (by kernel_rfl) ?_
        rename_i K hK
        obtain ⟨A3,n3,c3,rfl,hn3,hnc3,hcm3,hr3,hf3⟩ := hv
        have HZ9 := Lib.hid HB3.out.res
        have HR10 := Lib.hid (HR9.out.below hbx)
        have HU10 := Lib.hid (HU9.out.trans ((UB.of_below hbx).mono HU9.out.size))
        have y0 := HZ9.out.2 0
        have y1 := HZ9.out.2 1
        have y2 := HZ9.out.2 2
        have y3 := HZ9.out.2 3
        have y4 := HZ9.out.2 4
        have y5 := HZ9.out.2 5
        have z0 := HZ9.out.1 0 (by omega)
        have z1 := HZ9.out.1 1 (by omega)
        have z2 := HZ9.out.1 2 (by omega)
        have z3 := HZ9.out.1 3 (by omega)
        have z4 := HZ9.out.1 4 (by omega)
        have z5 := HZ9.out.1 5 (by omega)
        unfold cellsR at z0 z1 z2 z3 z4 z5
        refine hK _ _ ?_
        go_wp2_with (first | go_step3)
        obtain ⟨w4,hw4⟩ : ∃ w4,putTo V9 (W.heap.size + 1 + 1) (cellsB A3 n3 c3) 6 = w4 := ⟨_,rfl⟩
        have HC4 : CellsAt w4 (W.heap.size + 1 + 1) 6 (cellsB A3 n3 c3) := by rw [<- hw4];exact putTo_all HZ9.out
        have HR4 := HR10.out.putTo (f := cellsB A3 n3 c3) (HOF.out (W.heap.size + 1 + 1) (by omega)) 6
        have HU4 := HU10.out.putTo (f := cellsB A3 n3 c3) (show W.heap.size <= W.heap.size + 1 + 1 by omega) 6
        rw [hw4] at HR4 HU4
        have hrow4 : RowAt w4 A3 (((((acc.flatMap chunkB).take size).drop a).take n).map encB) := by
         refine hr3.far hf3 ?_ (fun b i hb => ?_)
         ·rw [<- hw4,putTo_size];exact Nat.le_refl _
         ·rw [<- hw4];exact putTo_other (by have : W.heap.size + 3 <= b := Nat.le_trans (by show W.heap.size + 3 <= wr.heap.size;omega) hb;omega) 6
        have hw5 := hw4
        unfold putTo putTo putTo putTo putTo putTo putTo cellsB at hw5
        simp only at hw5
        rw [hw5]
        clear hw5 hw4
        have g0 := HC4.1 0 (by omega)
        have g1 := HC4.1 1 (by omega)
        have g2 := HC4.1 2 (by omega)
        have g3 := HC4.1 3 (by omega)
        have g4 := HC4.1 4 (by omega)
        have g5 := HC4.1 5 (by omega)
        unfold cellsB at g0 g1 g2 g3 g4 g5
        refine bodyPost_ret (v := .agg #[.int .i64 0,.int .i64 0,.int .i64 0,.int .i64 0,.slice none 0 0,.slice A3 n3 c3]) (by simp [results,Tryz.results36,go_sem,g0,g1,g2,g3,g4,g5]) rfl ?_
        exact endsR_val HFIN.out ⟨none,0,0,A3,n3,c3,rfl,rfl,hn3,Nat.le_refl _,hnc3,hcm3,(by simp [maxLen]),RowAt.nil,hrow4,(fun _ e => by cases e),fun ad e => by have := hf3 ad e;have h2 : W.heap.size + 3 <= wr.drew.heap.size := (by show W.heap.size + 3 <= wr.heap.size;omega);omega⟩ HR4 HU4
end
section
open Go.RowKit
attribute [local go_sem] Oper.semAt_some
variable {R : Nat} {FA : Option Addr} {nf cf : Nat} {fed ats : List Nat}
set_option maxRecDepth 400000 in
set_option maxHeartbeats 4000000 in
theorem lread_not (kd lk top : Nat) (hkd : kd ≠ 1) (k : Int) (p d : ByteArray) (a n : Nat) (A : Option Addr) (m c : Nat) (W : World) (h : RuAt R FA nf cf fed ats.length W) :
  Calls Tryz.prog 36 #[.pointer (some ⟨R,0,none⟩),.agg #[.int .i64 kd,.int .i64 lk,.int .i64 top],opV k p d a n A m c] W (ReadsR R FA nf cf fed W (readEF fed (kd,lk,top) a n ats)) := by
 have HE : Hid (readEF fed (kd,lk,top) a n ats = .stop (.err 204) ats) := by rw [Hid,readEF,if_neg hkd]
 have hk1 : ((kd : Int) == 1) = false := by rw [beq_eq_false_iff_ne];omega
 obtain ⟨W0,hW0⟩ : ∃ W0,readW W kd lk top #[.int .i64 k,.string p,.string d,.int .i64 a,.int .i64 n,.slice A m c] = W0 := ⟨_,rfl⟩
 have hb : Below W.heap.size W W0 := by rw [<- hW0];exact readW_below ..
 have HM := Lib.hid (fun b => lmust_any b 204)
 have HR := Lib.hid h
 clear h
 unfold readW at hW0
 have HW0 := Lib.hid hW0
 clear hW0
 unfold opV
 go_enter Tryz.func36,Tryz.ntmps36
 go_wp2_with fail
 apply wp_scope_straight
 go_wp2_with (first
  | go_step3
  | (go_at_call 37;refine (HM.out _ _).mono ?_;rintro e w' ⟨rfl,rfl⟩))
 rw [HW0.out]
 exact ⟨rfl,endsR_stop HE.out (HR.out.below hb) (UB.of_below hb)⟩
def NzE {α : Type} : Res α -> Prop
 | .stop (.err c) _ => c ≠ 0
 | _ => True
theorem NzE.bind {α β : Type} {r : Res α} {g : α -> List Nat -> Res β} (h : NzE r) (hg : ∀ a l,NzE (g a l)) : NzE (r.bind g) := by
 cases r with
 | val a l => exact hg a l
 | stop o l => cases o <;> exact h
theorem NzE.load (fed : List Nat) (p : Nat) (l : List Nat) : NzE (loadP fed p l) := by
 unfold loadP;split <;> trivial
theorem NzE.err {α : Type} (c : Nat) (l : List Nat) (h : c ≠ 0 := by decide) : NzE (Res.stop (α := α) (.err c) l) := h
theorem NzE.pointer (x : Nat) (l : List Nat) : NzE (pointerP x l) := by unfold pointerP;split;trivial;exact NzE.err 300 l
theorem NzE.some (x : Nat) (l : List Nat) : NzE (someP x l) := by unfold someP;split;exact NzE.err 300 l;exact NzE.pointer x l
theorem NzE.enter (fed : List Nat) (line : Nat) (l : List Nat) : NzE (enterP fed line l) := by
 refine (NzE.load ..).bind fun k l => (NzE.load ..).bind fun t l => ?_
 split;trivial;exact NzE.err 300 l
theorem NzE.fitsW (fed : List Nat) (line : Nat) : ∀ (ws : List Nat) (k : Nat) (l : List Nat),NzE (fitsW fed line ws k l)
 | [],k,l => trivial
 | x :: ws,k,l => by
  refine (NzE.load ..).bind fun y l => ?_
  split;exact NzE.fitsW fed line ws (k + 1) l;trivial
theorem NzE.fits (fed : List Nat) (line : Nat) (s : List UInt8) (l : List Nat) : NzE (fitsP fed line s l) := by
 refine (NzE.load ..).bind fun y l => ?_
 split;exact NzE.fitsW ..;trivial
theorem NzE.chain (fed : List Nat) (s : List UInt8) : ∀ (fuel line : Nat) (l : List Nat),NzE (chainP fed s fuel line l)
 | 0,line,l => by unfold chainP;split;exact NzE.err 202 l;exact NzE.err 300 l
 | fuel + 1,line,l => by
  unfold chainP
  split
  ·exact NzE.err 202 l
  ·refine (NzE.fits ..).bind fun is l => ?_
   split
   ·exact (NzE.load ..).bind fun x l => NzE.some x l
   ·exact (NzE.load ..).bind fun x l => (NzE.pointer ..).bind fun n l => NzE.chain fed s fuel n l
theorem NzE.find (fed : List Nat) (top : Nat) (s : List UInt8) (l : List Nat) : NzE (findP fed top s l) :=
 (NzE.load ..).bind fun x l => (NzE.pointer ..).bind fun n l => NzE.chain ..
theorem NzE.walkL (fed : List Nat) : ∀ (names : List (List UInt8)) (line : Nat) (n : Nat × Nat × Nat) (l : List Nat),NzE (walkL fed names line n l)
 | [],line,n,l => trivial
 | s :: names,line,n,l => by
  unfold Go.Proofs.YtdpooagnbmpinaaGreatDoor.walkL
  split
  ·exact (NzE.find ..).bind fun line l => (NzE.enter ..).bind fun n l => NzE.walkL fed names line n l
  ·exact NzE.err 201 l
theorem NzE.walked (fed : List Nat) (names : List (List UInt8)) : NzE (walkedP fed names) :=
 (NzE.load ..).bind fun x l => (NzE.some ..).bind fun line l => (NzE.enter ..).bind fun n l => NzE.walkL ..
def cellsN (t : Nat × Nat × Nat) : Nat -> Value
 | 0 => .int .i64 t.1
 | 1 => .int .i64 t.2.1
 | _ => .int .i64 t.2.2
def encLN (t : Nat × Nat × Nat) : Value := .agg #[.int .i64 t.1,.int .i64 t.2.1,.int .i64 t.2.2]
set_option maxRecDepth 100000 in
set_option maxHeartbeats 4000000 in
theorem lwalked_any (s : ByteArray) (W : World) (hs : s.size < 4294967281) (hbg : begunN (bytesOf s) nf = 0) (hnf : nf <= maxLen) (hx64 : ∀ x ∈ fed,x < 18446744073709551616) (h : RuAt R FA nf cf fed 0 W) :
  Calls Tryz.prog 22 #[.pointer (some ⟨R,0,none⟩),.string s] W (ReadsU R FA nf cf fed W encLN ((walkedP fed (readP (bytesOf s)).2).bind fun t l => .val t.2 l)) := by
 obtain ⟨W0,hW0⟩ : ∃ W0,W.alloc (.cells #[.int .i64 0,.int .i64 0,.int .i64 0] 46) = W0 := ⟨_,rfl⟩
 have hb0 : Below W.heap.size W W0 := by rw [<- hW0];exact (Below.refl _ _).alloc (Nat.le_refl _) _
 have hrun := run_any (FA := FA) (nf := nf) (cf := cf) (fed := fed) s W0 hs h.fedl hnf hx64 (h.below hb0).fedr
 rw [runP,h.fedl,if_pos hbg] at hrun
 have HRUN := Lib.hid hrun
 have HR0 := Lib.hid (h.below hb0)
 have HC0 : Hid (CellsAt W0 W.heap.size 3 (fun _ => .int .i64 0)) := by
  rw [Hid,<- hW0]
  exact cellsAt_new _ _ _ _ _ fun i hi => match i,hi with | 0,_ => rfl | 1,_ => rfl | 2,_ => rfl
 have hs0 : W0.heap.size = W.heap.size + 1 := by rw [<- hW0];simp
 have hf0 := h.fedc
 have hRl := h.lt
 have HOF := Lib.hid (h.off (Nat.le_refl W.heap.size))
 have HM := Lib.hid lmust_any
 have HW0 := Lib.hid hW0
 clear hrun hW0 h hx64
 cases hr : walkedP fed (readP (bytesOf s)).2 with
 | stop o l =>
  rw [hr] at HRUN
  cases o with
  | need q =>
   unfold agg8 runF cellsW at HRUN
   go_enter Tryz.func22,Tryz.ntmps22
   go_wp2_with (first
    | (go_at_call 13;rw [HW0.out];refine HRUN.out.mono ?_;rintro e w2 ⟨rfl,hb2⟩;have HR2 := Lib.hid (HR0.out.below hb2);have HB2 := Lib.hid (hb0.trans (hb2.mono hb0.size));have hf2 := HR2.out.fedc;have hu2 := HR2.out.usd;have hz2 := HR2.out.frz;have hR2 := HR2.out.lt;have HC2 := Lib.hid (HC0.out.below hb2 (by omega));have z0 := HC2.out.1 0 (by omega);have z1 := HC2.out.1 1 (by omega);have z2 := HC2.out.1 2 (by omega);have y0 := HC2.out.2 0;have y1 := HC2.out.2 1;have y2 := HC2.out.2 2;have hW2 := World.block_lt_of_cell? w2 ⟨W.heap.size,0,none⟩ z0;have hne2 : W.heap.size ≠ R := by omega)
    | (go_at_call 37;refine (HM.out _ _ _).mono ?_;rintro e w' ⟨rfl,rfl⟩))
   exact ⟨rfl,ends_stop (o := .need q) (l := l) rfl ⟨_,(HR2.out.use nf).alloc _⟩ (((UB.of_below HB2.out).set (.inr rfl)).alloc (by have := HB2.out.size;simpa [World.setCell] using this) _)⟩
  | err q =>
   have hq0 : ((q : Int) == 0) = false := by
    have := NzE.walked fed (readP (bytesOf s)).2
    rw [hr] at this
    have h2 : q ≠ 0 := this
    rw [beq_eq_false_iff_ne];omega
   unfold agg8 runF cellsW at HRUN
   go_enter Tryz.func22,Tryz.ntmps22
   go_wp2_with (first
    | (go_at_call 13;rw [HW0.out];refine HRUN.out.mono ?_;rintro e w2 ⟨rfl,hb2⟩;have HR2 := Lib.hid (HR0.out.below hb2);have HB2 := Lib.hid (hb0.trans (hb2.mono hb0.size));have hf2 := HR2.out.fedc;have hu2 := HR2.out.usd;have hz2 := HR2.out.frz;have hR2 := HR2.out.lt;have HC2 := Lib.hid (HC0.out.below hb2 (by omega));have z0 := HC2.out.1 0 (by omega);have z1 := HC2.out.1 1 (by omega);have z2 := HC2.out.1 2 (by omega);have y0 := HC2.out.2 0;have y1 := HC2.out.2 1;have y2 := HC2.out.2 2;have hW2 := World.block_lt_of_cell? w2 ⟨W.heap.size,0,none⟩ z0;have hne2 : W.heap.size ≠ R := by omega)
    | (go_at_call 37;refine (HM.out _ _ _).mono ?_;rintro e w' ⟨rfl,rfl⟩))
   exact ⟨rfl,ends_stop (o := .err q) (l := l) rfl ((HR2.out.use l.length).alloc _) (((UB.of_below HB2.out).set (.inr rfl)).alloc (by have := HB2.out.size;simpa [World.setCell] using this) _)⟩
 | val t l =>
  rw [hr] at HRUN
  unfold agg8 runF cellsW at HRUN
  go_enter Tryz.func22,Tryz.ntmps22
  go_wp2_with (first
   | (go_at_call 13;rw [HW0.out];refine HRUN.out.mono ?_;rintro e w2 ⟨rfl,hb2⟩;have HR2 := Lib.hid (HR0.out.below hb2);have HB2 := Lib.hid (hb0.trans (hb2.mono hb0.size));have hf2 := HR2.out.fedc;have hu2 := HR2.out.usd;have hz2 := HR2.out.frz;have hR2 := HR2.out.lt;have HC2 := Lib.hid (HC0.out.below hb2 (by omega));have z0 := HC2.out.1 0 (by omega);have z1 := HC2.out.1 1 (by omega);have z2 := HC2.out.1 2 (by omega);have y0 := HC2.out.2 0;have y1 := HC2.out.2 1;have y2 := HC2.out.2 2;have hW2 := World.block_lt_of_cell? w2 ⟨W.heap.size,0,none⟩ z0;have hne2 : W.heap.size ≠ R := by omega)
   | (go_at_call 37;refine (HM.out _ _ _).mono ?_;rintro e w' ⟨rfl,rfl⟩))
  have hoff : OffU R FA nf W.heap.size := HOF.out
  obtain ⟨w4,hw4⟩ : ∃ w4,putTo (w2.setCell ⟨R,1,none⟩ (.int .i64 l.length)) W.heap.size (cellsN t.2) 3 = w4 := ⟨_,rfl⟩
  have HC4 : CellsAt w4 W.heap.size 3 (cellsN t.2) := by rw [<- hw4];exact putTo_all (HC2.out.set (by omega))
  have HR4 := (HR2.out.use l.length).putTo (f := cellsN t.2) hoff 3
  have HU4 := ((UB.of_below HB2.out).set (R := R) (b := R) (i := 1) (v := .int .i64 l.length) (.inr rfl)).putTo (f := cellsN t.2) (Nat.le_refl _) 3
  rw [hw4] at HR4 HU4
  have hs4 : W.heap.size < w4.heap.size := by rw [<- hw4,putTo_size];simpa [World.setCell] using hW2
  have hw5 := hw4
  unfold putTo putTo putTo putTo cellsN at hw5
  simp only at hw5
  rw [hw5]
  clear hw5 hw4
  have HC5 := HC4.below ((Below.refl w4.heap.size w4).alloc (Nat.le_refl _) (.cells #[.bool false,.int .i64 0,.int .i64 l.length,.int .i64 0,.int .i64 t.1,.int .i64 t.2.1,.int .i64 t.2.2.1,.int .i64 t.2.2.2] 48)) hs4
  have g0 := HC5.1 0 (by omega)
  have g1 := HC5.1 1 (by omega)
  have g2 := HC5.1 2 (by omega)
  unfold cellsN at g0 g1 g2
  refine bodyPost_ret (v := encLN t.2) (by simp [results,Tryz.results22,go_sem,g0,g1,g2,encLN]) rfl ?_
  exact ends_val rfl (HR4.alloc _) (HU4.alloc (by omega) _)
end
end Go.Proofs.YtdpooagnbmpinaaGreatDoor
