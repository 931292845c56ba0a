import Derived.Test.YtdpooagnbmpinaaGreatDoorZQ1
import Derived.Test.YtdpooagnbmpinaaGreatDoorZK9
import Derived.Test.YtdpooagnbmpinaaGreatDoorZV2
import Derived.Test.YtdpooagnbmpinaaGreatDoorZW2
import Derived.Deep.AppendLies
namespace Go.Proofs.YtdpooagnbmpinaaGreatDoor
section
open Go.RowKit
def textN (bs : List UInt8) : Nat := moreN 14695981039346656037 (wordsN bs ++ [bs.length])
set_option maxRecDepth 100000 in
theorem of_any (xs : List Nat) (A : Option Addr) (n c : Nat) (w : World) (hn : xs.length = n) (hm : n <= 4096) (hx : ∀ x ∈ xs,x < 18446744073709551616) (h : RowAt w A (xs.map encW)) (hA : ∀ b off,A = some ⟨b,off,none⟩ -> b < w.heap.size) :
  Calls Tryz.prog 207 #[.slice A n c] w fun e w' => e = .returned (.tuple #[.int .u64 (moreN 14695981039346656037 xs : Nat),.int .i64 0]) ∧ Below w.heap.size w w' := by
 have HM := more_any xs A n c 14695981039346656037 w hn hm hx (by decide) h hA
 generalize moreN 14695981039346656037 xs = y at *
 have HM := Lib.hid HM
 clear h hA hx hn
 go_enter Tryz.func207,Tryz.ntmps207
 go_wp2_with fail
 refine HM.out.mono ?_
 rintro e w1 ⟨rfl,hb1⟩
 go_wp2_with fail
 go_ret2
 exact ⟨rfl,hb1⟩
set_option maxRecDepth 100000 in
set_option maxHeartbeats 1000000 in
theorem sumText_any (bs : List UInt8) (b off n c : Nat) (w : World) (hn : bs.length = n) (hm : n <= 300) (hnc : n <= c) (hc : c <= maxLen) (h : RowAt w (some ⟨b,off,none⟩) (bs.map encB)) (hb : b < w.heap.size) :
  Calls Tryz.prog 135 #[.slice (some ⟨b,off,none⟩) n c] w fun e w' => e = .returned (.tuple #[.int .u64 (textN bs : Nat),.int .i64 0]) ∧ Below w.heap.size w w' := by
 obtain ⟨i0,hi,hz0,hz1,hz2⟩ := info_parts Tryz.infoU64
 have HW := Lib.hid (words_any bs b off n c w hn (by omega) hnc hc h hb)
 have HN := Lib.hid hn
 have hu : IntKind.u64.wrap (n : Int) = (n : Int) := IntWalk.u64_in _ (by omega)
 have H1 : Hid (∀ l : List Nat,∀ u ∈ l.map encW,u.oneCell' = true) := fun l u hu => by
  obtain ⟨x,_,rfl⟩ := List.mem_map.1 hu;rfl
 clear h hb hn
 go_enter Tryz.func135,Tryz.ntmps135
 go_wp2_with fail
 refine HW.out.mono ?_
 rintro e w1 ⟨v,rfl,hown,hb1⟩
 have HO := Lib.hid hown
 have HB1 := Lib.hid hb1
 clear hown hb1
 have hsz := HB1.out.size
 have HRO : Hid (∀ t,RowAt (w1.alloc (.cells #[.int .u64 n] t)) (some ⟨w1.heap.size,0,none⟩) [encW n]) := fun t =>
  row_of_own (World.ownsRow_lit w1 #[encW n] 1 (Nat.le_refl _) (by simp [maxLen]) (by simp))
 go_wp2_with (at_builtin;refine wpList_append_row _ (by rfl) (.tmp 14) (.tmp 18) 23 rfl w.heap.size 24 i0 (.int .u64 0) 8 Tryz.underlying23 hi hz0 hz1 hz2 rfl _ ((n + 7) / 8) ((wordsN bs).map encW) rfl (HO.out.alloc _) (some ⟨w1.heap.size,0,none⟩) 1 1 [encW n] rfl rfl (HRO.out _) (H1.out [n]) ?c1 ?c2 ?c3 ?_)
 case c1 => unfold maxLen;omega
 case c2 => omega
 case c3 => simp;omega
 intro v1 w2 hown1 hg1
 have HLT := Lib.hid (HO.out.lt)
 have HB2 : Hid (Below w.heap.size w w2) := (HB1.out.alloc hsz _).grown hg1 (by simp;omega) (fun r e => (HLT.out r e).1)
 have HT : Hid (textN bs = moreN 14695981039346656037 (wordsN bs ++ [n])) := by unfold textN;rw [HN.out];rfl
 have hown2 : w2.ownsRow w.heap.size 24 1 v1 ((n + 7) / 8 + 1) ((wordsN bs ++ [n]).map encW) := by rw [List.map_append];exact hown1
 clear hown1 hg1 HLT HRO HO
 obtain ⟨m,hm1⟩ : ∃ m : Nat,(n + 7) / 8 + 1 = m := ⟨_,rfl⟩
 rw [hm1] at hown2
 obtain ⟨A2,c2,rfl,hc2,hcm2⟩ := owns_slice hown2
 have HOF := Lib.hid (of_any (wordsN bs ++ [n]) A2 m c2 w2 (by rw [List.length_append,wordsN_length,HN.out];exact hm1) (by omega) (fun x hx => by
  rcases List.mem_append.1 hx with h | h
  ·exact wordsN_lt x h
  ·rw [List.mem_singleton.1 h];omega) (row_of_own hown2) (fun b off e => (hown2.lt b (by rw [e];rfl)).2))
 clear hown2
 go_wp2_with fail
 refine HOF.out.mono ?_
 rintro e w3 ⟨rfl,hb3⟩
 go_wp2_with fail
 go_ret2
 exact ⟨by rw [HT.out];rfl,below_trans HB2.out hb3⟩
def bucketN (bs : List UInt8) : Nat := textN bs % 7
theorem rem_seven (t : Nat) : ((t : Int).tmod 7) = ((t % 7 : Nat) : Int) := by
 rw [Int.tmod_eq_emod_of_nonneg (Int.natCast_nonneg t)];rfl
set_option maxRecDepth 100000 in
set_option maxHeartbeats 1000000 in
theorem bucket_any (s : ByteArray) (w : World) (hs : s.size <= maxLen) :
  Calls Tryz.prog 81 #[.string s] w fun e w' => e = .returned (.tuple #[.int .i64 (if rightB (bytesOf s) then bucketN (bytesOf s) else 0 : Nat),.int .i64 (errB (rightB (bytesOf s)))]) ∧ Below w.heap.size w w' := by
 have HC := Lib.hid (fun W => check_any s W hs)
 have HR : ∀ b,rightB (bytesOf s) = b -> Hid (rightB s.data.toList = b) := fun _ h => h
 cases hr : rightB (bytesOf s)
 ·have HR1 := HR _ hr
  clear HR hr
  go_enter Tryz.func81,Tryz.ntmps81
  go_wp2_with fail
  refine (HC.out _).mono ?_
  rintro e w1 ⟨rfl,hb1⟩
  rw [HR1.out]
  go_wp2_with fail
  go_ret2
  exact ⟨rfl,hb1⟩
 ·have HR1 := HR _ hr
  obtain ⟨hl1,hl40⟩ := rightB_size hr
  rw [size_bytesOf] at hl1 hl40
  clear HR hr
  have hconv := fun W => Lib.run_convert_string_bytes (P := Tryz.prog) W 9 26 5 s Tryz.underlyingStr Tryz.underlyingBytes Tryz.underlyingByte
  have HCV := Lib.hid hconv
  clear hconv
  have hrem := rem_seven (textN (bytesOf s))
  have hb7 : (textN (bytesOf s) % 7 : Nat) < 7 := Nat.mod_lt _ (by decide)
  have HBN : Hid (bucketN (bytesOf s) = textN (bytesOf s) % 7) := rfl
  go_enter Tryz.func81,Tryz.ntmps81
  go_wp2_with fail
  refine (HC.out _).mono ?_
  rintro e w1 ⟨rfl,hb1⟩
  rw [HR1.out]
  have HB1 := Lib.hid hb1
  clear hb1
  have hconv := HCV.out
  go_wp2_with fail
  have hbB := below_bytes w1 5 s
  have hrow := row_bytes w1 5 s
  have hsB : (Lib.bytesWorld w1 5 s).heap.size = w1.heap.size + 1 := Lib.bytesWorld_size _ _ _
  have hcap1 := grownCap_ge w1 s.size 0 5
  have hcap2 := grownCap_le_maxLen w1 s.size 0 5 (by unfold maxLen;omega)
  clear hconv
  refine (sumText_any (bytesOf s) w1.heap.size 0 s.size _ _ rfl (by omega) hcap1 hcap2 hrow (by omega)).mono ?_
  rintro e w3 ⟨rfl,hb3⟩
  have HB3 := Lib.hid (below_trans HB1.out (hbB.trans (hb3.mono (by omega))))
  clear hb3 hrow hbB
  generalize textN (bytesOf s) = t at *
  generalize t % 7 = r at *
  have hu : IntKind.i64.wrap (r : Int) = (r : Int) := IntWalk.i64_in _ (by omega)
  go_wp2_with fail
  go_ret2
  exact ⟨by rw [HBN.out];rfl,HB3.out⟩
end
section
open Go.RowKit
inductive Out where
 | need (at_ : Nat)
 | err (e : Nat)
inductive Res (α : Type) where
 | val (a : α) (ats : List Nat)
 | stop (o : Out) (ats : List Nat)
def Res.ats {α : Type} : Res α -> List Nat
 | .val _ l => l
 | .stop _ l => l
def Res.bind {α β : Type} (r : Res α) (g : α -> List Nat -> Res β) : Res β :=
 match r with
 | .val a l => g a l
 | .stop o l => .stop o l
def loadP (fed : List Nat) (p : Nat) (ats : List Nat) : Res Nat :=
 match fed[ats.length]? with
 | some x => .val x (ats ++ [p])
 | none => .stop (.need p) (ats ++ [p])
def pointerP (x : Nat) (ats : List Nat) : Res Nat := if x < 1024 then .val x ats else .stop (.err 300) ats
def someP (x : Nat) (ats : List Nat) : Res Nat := if x = 0 then .stop (.err 300) ats else pointerP x ats
def nodeP (k t : Nat) : Option (Nat × Nat × Nat) :=
 if (k % 256 = 1 ∨ k % 256 = 2 ∧ k / 256 = 1) ∧ 1 <= k / 256 ∧ k / 256 <= 200 ∧ 1 <= t ∧ t < 1024 then some (k % 256,k / 256,t) else none
def enterP (fed : List Nat) (line : Nat) (ats : List Nat) : Res (Nat × Nat × Nat) :=
 (loadP fed (line * 8 + 0) ats).bind fun k ats => (loadP fed (line * 8 + 1) ats).bind fun t ats =>
  match nodeP k t with
  | some n => .val n ats
  | none => .stop (.err 300) ats
def fitsW (fed : List Nat) (line : Nat) : List Nat -> Nat -> List Nat -> Res Bool
 | [],_,ats => .val true ats
 | x :: ws,k,ats => (loadP fed (line * 8 + (3 + k)) ats).bind fun y ats => if y = x then fitsW fed line ws (k + 1) ats else .val false ats
def fitsP (fed : List Nat) (line : Nat) (s : List UInt8) (ats : List Nat) : Res Bool :=
 (loadP fed (line * 8 + 2) ats).bind fun y ats => if y = s.length then fitsW fed line (wordsN s) 0 ats else .val false ats
def chainP (fed : List Nat) (s : List UInt8) : Nat -> Nat -> List Nat -> Res Nat
 | 0,line,ats => if line = 0 then .stop (.err 202) ats else .stop (.err 300) ats
 | fuel + 1,line,ats => if line = 0 then .stop (.err 202) ats else
  (fitsP fed line s ats).bind fun is ats => if is then (loadP fed (line * 8 + 1) ats).bind someP
   else (loadP fed (line * 8 + 0) ats).bind fun x ats => (pointerP x ats).bind fun next ats => chainP fed s fuel next ats
def findP (fed : List Nat) (top : Nat) (s : List UInt8) (ats : List Nat) : Res Nat :=
 (loadP fed (top * 8 + bucketN s) ats).bind fun x ats => (pointerP x ats).bind fun line ats => chainP fed s 1024 line ats
def walkL (fed : List Nat) : List (List UInt8) -> Nat -> Nat × Nat × Nat -> List Nat -> Res (Nat × Nat × Nat × Nat)
 | [],line,n,ats => .val (line,n) ats
 | s :: l,_,n,ats => if n.1 = 2 then (findP fed n.2.2 s ats).bind fun line ats => (enterP fed line ats).bind fun n ats => walkL fed l line n ats
   else .stop (.err 201) ats
def walkedP (fed : List Nat) (names : List (List UInt8)) : Res (Nat × Nat × Nat × Nat) :=
 (loadP fed 1 []).bind fun x ats => (someP x ats).bind fun line ats => (enterP fed line ats).bind fun n ats => walkL fed names line n ats
end
section
open Go.RowKit
def encI (a : Nat) : Value := .int .i64 a
def FreeAt (R : Nat) (W : World) (b : Nat) : Prop := b ≠ R ∧ ∀ v,W.cell? ⟨R,1,none⟩ = some v -> v.ownBlock ≠ some b
structure RdAt (R : Nat) (FA : Option Addr) (nf cf : Nat) (fed ats : List Nat) (W : World) : Prop where
 lt : R < W.heap.size
 fedc : W.cell? ⟨R,0,none⟩ = some (.slice FA nf cf)
 fedl : fed.length = nf
 fedr : RowAt W FA (fed.map encW)
 feda : 0 < fed.length -> ∀ b off,FA = some ⟨b,off,none⟩ -> b < R
 atsv : ∃ v,W.cell? ⟨R,1,none⟩ = some v ∧ W.ownsRow (R + 1) 3 1 v ats.length (ats.map encI)
 frz : W.frozen? ⟨R,1,none⟩ = false
structure RB (R B : Nat) (W W' : World) : Prop where
 os : W'.os = W.os
 tape : W'.tape = W.tape
 output : W'.output = W.output
 size : W.heap.size <= W'.heap.size
 keep : ∀ b,b < B -> FreeAt R W b -> W'.heap[b]? = W.heap[b]? ∧ FreeAt R W' b
theorem RB.refl (R B : Nat) (W : World) : RB R B W W := ⟨rfl,rfl,rfl,Nat.le_refl _,fun _ _ h => ⟨rfl,h⟩⟩
theorem RB.trans {R B : Nat} {W W1 W2 : World} (h : RB R B W W1) (k : RB R B W1 W2) : RB R B W W2 :=
 ⟨k.os.trans h.os,k.tape.trans h.tape,k.output.trans h.output,Nat.le_trans h.size k.size,fun b hb hf => let ⟨h1,h2⟩ := h.keep b hb hf;let ⟨k1,k2⟩ := k.keep b hb h2;⟨k1.trans h1,k2⟩⟩
theorem RB.mono {R B B' : Nat} {W W' : World} (h : RB R B W W') (hB : B' <= B) : RB R B' W W' := ⟨h.os,h.tape,h.output,h.size,fun b hb hf => h.keep b (Nat.lt_of_lt_of_le hb hB) hf⟩
theorem freeAt_below {R n b : Nat} {W W' : World} (h : Below n W W') (hR : R < n) (hf : FreeAt R W b) : FreeAt R W' b :=
 ⟨hf.1,fun v hv => hf.2 v (by rwa [h.cell (p := ⟨R,1,none⟩) hR] at hv)⟩
theorem RB.of_below {R n : Nat} {W W' : World} (h : Below n W W') (hR : R < n) : RB R n W W' :=
 ⟨h.os,h.tape,h.output,h.size,fun b hb hf => ⟨h.block b hb,freeAt_below h hR hf⟩⟩
variable {R : Nat} {FA : Option Addr} {nf cf : Nat} {fed ats : List Nat} {W W' : World}
theorem RdAt.below (h : RdAt R FA nf cf fed ats W) (hb : Below W.heap.size W W') : RdAt R FA nf cf fed ats W' := by
 obtain ⟨v,hv,ho⟩ := h.atsv
 exact ⟨Nat.lt_of_lt_of_le h.lt hb.size,(hb.cell (p := ⟨R,0,none⟩) h.lt).trans h.fedc,h.fedl,h.fedr.below hb,h.feda,⟨v,(hb.cell (p := ⟨R,1,none⟩) h.lt).trans hv,owns_below ho hb⟩,(hb.frozen (p := ⟨R,1,none⟩) h.lt).trans h.frz⟩
theorem RdAt.free_new (h : RdAt R FA nf cf fed ats W) (hb : Below W.heap.size W W') {b : Nat} (hW : W.heap.size <= b) : FreeAt R W' b := by
 obtain ⟨v,hv,ho⟩ := h.atsv
 refine ⟨fun e => ?_,fun u hu e => ?_⟩
 ·have := h.lt;omega
 ·rw [hb.cell (p := ⟨R,1,none⟩) h.lt,hv] at hu
  cases hu
  have := (ho.lt b e).2
  omega
theorem RB.cell {B b off : Nat} (h : RB R B W W') (hb : b < B) (hf : FreeAt R W b) : W'.cell? ⟨b,off,none⟩ = W.cell? ⟨b,off,none⟩ := World.cell?_of_block (w := W) (h.keep b hb hf).1
theorem RB.frozen {B b off : Nat} (h : RB R B W W') (hb : b < B) (hf : FreeAt R W b) : W'.frozen? ⟨b,off,none⟩ = W.frozen? ⟨b,off,none⟩ := World.frozen?_of_block (w := W) (h.keep b hb hf).1
end
section
open Go.RowKit
theorem Tryz.infoInt : (Tryz.prog.info? 3).map (fun i => (i.zero,i.size,i.bytes)) = some (some (.int .i64 0),1,8) := by kernel_rfl
theorem grown_set (W : World) (a : Addr) (v : Value) : W.grownBy (W.setCell a v) (some a.block) :=
 ⟨rfl,rfl,rfl,by simp [World.setCell],fun k _ hne => Below.heap_setCell W a v k (fun e => hne (by rw [e]))⟩
def needV (p : Nat) : PanicEntry := { v := .iface 109 (.int .i64 p),recovered := false }
def errV (e : Nat) : PanicEntry := { v := .iface 29 (.int .i64 e),recovered := false }
variable {R : Nat} {FA : Option Addr} {nf cf : Nat} {fed ats : List Nat}
set_option maxRecDepth 100000 in
set_option maxHeartbeats 2000000 in
theorem load_any (p : Nat) (W : World) (hp : p < 9223372036854775808) (hl : ats.length <= 100000) (hnf : nf <= 100000) (hx64 : ∀ x ∈ fed,x < 18446744073709551616) (h : RdAt R FA nf cf fed ats W) :
  Calls Tryz.prog 49 #[.pointer (some ⟨R,0,none⟩),.int .i64 p] W fun e W' => RdAt R FA nf cf fed (ats ++ [p]) W' ∧ RB R W.heap.size W W' ∧
   ((∃ x,fed[ats.length]? = some x ∧ e = .returned (.int .u64 x)) ∨ (fed[ats.length]? = none ∧ e = .panicked [needV p])) := by
 obtain ⟨i0,hi,hz0,hz1,hz2⟩ := info_parts Tryz.infoInt
 have HRD := Lib.hid h
 obtain ⟨v,hv,hown⟩ := h.atsv
 have hfr := h.frz
 have hR := h.lt
 have HX := Lib.hid hx64
 have HO := Lib.hid hown
 have HLT := Lib.hid hown.lt
 obtain ⟨m,hm⟩ : ∃ m,ats.length = m := ⟨_,rfl⟩
 have HM := Lib.hid hm
 rw [hm] at hl HO
 have H1 : Hid (∀ u ∈ [encI p],u.oneCell' = true) := fun u hu => by rw [List.mem_singleton.1 hu];rfl
 clear h hown hx64 hm
 go_enter Tryz.func49,Tryz.ntmps49
 go_wp2_with (at_builtin;refine wpList_append_lies _ rfl (.tmp 10) (.tmp 12) 72 rfl (R + 1) 3 i0 (.int .i64 0) 1 8 Tryz.underlying72 hi hz0 hz1 hz2 rfl (by decide) v m (ats.map encI) rfl (HO.out.alloc _) ⟨W.heap.size,0,none⟩ 1 1 [encI p] rfl rfl ?c0 H1.out (by decide) ?c1 ?c2 ?c3 (W.heap.size + 1) (by simp) ?_)
 case c0 => exact World.news_of_block (World.alloc_heap_new _ _)
 case c1 => unfold maxLen;omega
 case c2 => omega
 case c3 => simp;omega
 intro g cap w2 hown2 hg2 hcase hgl
 have hne : some R ≠ v.ownBlock := fun e => by have := (HLT.out R e.symm).1;omega
 have hW1 : Below W.heap.size W (W.alloc (.cells #[encI p] 3)) := (Below.refl _ _).alloc (Nat.le_refl _) _
 have hsz2 : W.heap.size + 1 <= w2.heap.size := by have := hg2.size;simp at this;exact this
 have hc1 : w2.cell? ⟨R,1,none⟩ = some v := (hg2.cell_far ⟨R,1,none⟩ (by simp;omega) hne).trans ((hW1.cell (p := ⟨R,1,none⟩) hR).trans hv)
 have hf1 : w2.frozen? ⟨R,1,none⟩ = false := (hg2.frozen_far ⟨R,1,none⟩ (by simp;omega) hne).trans ((hW1.frozen (p := ⟨R,1,none⟩) hR).trans hfr)
 have hc0 : (w2.setCell ⟨R,1,none⟩ (.slice (some ⟨g,0,none⟩) (m + 1) cap)).cell? ⟨R,0,none⟩ = some (.slice FA nf cf) := by
  rw [World.cell?_setCell_other _ _ _ _ (by intro e;cases e)]
  exact (hg2.cell_far ⟨R,0,none⟩ (by simp;omega) hne).trans ((hW1.cell (p := ⟨R,0,none⟩) hR).trans HRD.out.fedc)
 have hgR : R + 1 <= g := (hown2.lt g rfl).1
 have HC1 : Hid ((w2.setCell ⟨R,1,none⟩ (.slice (some ⟨g,0,none⟩) (m + 1) cap)).cell? ⟨R,1,none⟩ = some (.slice (some ⟨g,0,none⟩) (m + 1) cap)) := World.cell?_setCell_same' _ _ _ (by rw [hc1];rfl)
 have HF1 : Hid ((w2.setCell ⟨R,1,none⟩ (.slice (some ⟨g,0,none⟩) (m + 1) cap)).frozen? ⟨R,1,none⟩ = false) := (World.frozen?_setCell _ _ _ _).trans hf1
 have HO3 : Hid ((w2.setCell ⟨R,1,none⟩ (.slice (some ⟨g,0,none⟩) (m + 1) cap)).ownsRow (R + 1) 3 1 (.slice (some ⟨g,0,none⟩) (m + 1) cap) (m + 1) ((ats ++ [p]).map encI)) := by
  rw [Hid,List.map_append]
  exact hown2.kept (grown_set w2 ⟨R,1,none⟩ _) (.inr (fun e => by injection e with e;have : g = R := e;omega))
 have hblk : ∀ k,k < W.heap.size -> k ≠ R -> v.ownBlock ≠ some k -> (w2.setCell ⟨R,1,none⟩ (.slice (some ⟨g,0,none⟩) (m + 1) cap)).heap[k]? = W.heap[k]? := fun k hk h1 h2 =>
  (Below.heap_setCell _ _ _ k h1).trans ((hg2.block k (by simp;omega) (fun e => h2 e.symm)).trans (hW1.block k hk))
 have HB3 : Hid (RB R W.heap.size W (w2.setCell ⟨R,1,none⟩ (.slice (some ⟨g,0,none⟩) (m + 1) cap))) :=
  ⟨hg2.os,hg2.tape,hg2.output,by simp [World.setCell];omega,fun b hb hf => ⟨hblk b hb hf.1 (hf.2 v hv),hf.1,fun u hu e => by
   rw [HC1.out] at hu
   cases hu
   have e : g = b := by simpa [Value.ownBlock] using e
   subst e
   rcases hcase with h | h
   ·exact hf.2 v hv h
   ·omega⟩⟩
 have hsz3 : W.heap.size <= (w2.setCell ⟨R,1,none⟩ (.slice (some ⟨g,0,none⟩) (m + 1) cap)).heap.size := HB3.out.size
 have HR3 : Hid (RdAt R FA nf cf fed (ats ++ [p]) (w2.setCell ⟨R,1,none⟩ (.slice (some ⟨g,0,none⟩) (m + 1) cap))) := by
  refine ⟨Nat.lt_of_lt_of_le hR hsz3,hc0,HRD.out.fedl,fun hn => ?_,HRD.out.feda,⟨_,HC1.out,?_⟩,HF1.out⟩
  ·obtain ⟨b,off,e,hb,hc⟩ := HRD.out.fedr hn
   have hbR := HRD.out.feda (by rw [List.length_map] at hn;exact hn) b off e
   exact ⟨b,off,e,Nat.lt_of_lt_of_le hb hsz3,fun k u hu => (World.cell?_of_block (w := W) (hblk b hb (by omega) (fun e => by have := (HLT.out b e).1;omega))).trans (hc k u hu)⟩
  ·rw [List.length_append,HM.out];exact HO3.out
 clear hown2 hg2 hcase hgl hW1 hblk
 have h0m : (0 : Int) <= (m : Int) := Int.natCast_nonneg _
 have hadd : IntKind.i64.wrap ((m + 1 : Nat) : Int) = ((m + 1 : Nat) : Int) := IntWalk.i64_in _ (by omega)
 by_cases hlt : m < nf
 ·have hmf : m < fed.length := by rw [HRD.out.fedl];exact hlt
  obtain ⟨b,off,rfl,hbw,hcb⟩ := HRD.out.fedr.get (k := m) (u := encW fed[m]) (by rw [List.getElem?_map,List.getElem?_eq_getElem hmf];rfl)
  have HGE : Hid (fed[m]? = some fed[m]) := List.getElem?_eq_getElem hmf
  have hcx : (w2.setCell ⟨R,1,none⟩ (.slice (some ⟨g,0,none⟩) (m + 1) cap)).cell? ⟨b,off + m,none⟩ = some (encW fed[m]) := by
   obtain ⟨b',off',e',_,hc⟩ := HR3.out.fedr.get (k := m) (u := encW fed[m]) (by rw [List.getElem?_map,List.getElem?_eq_getElem hmf];rfl)
   cases e'
   exact hc
  generalize fed[m] = x at hcx HGE
  unfold encW at hcx
  have hc1' := HC1.out
  clear hcb
  go_wp2_with fail
  go_ret
  refine ⟨HR3.out,HB3.out,.inl ⟨x,by rw [HM.out];exact HGE.out,rfl⟩⟩
 ·have HGE : Hid (fed[m]? = none) := List.getElem?_eq_none (by rw [HRD.out.fedl];omega)
  have hc1' := HC1.out
  go_wp2_with fail
  exact ⟨rfl,HR3.out,HB3.out,.inr ⟨by rw [HM.out];exact HGE.out,rfl⟩⟩
end
section
open Go.RowKit
def endOf {α : Type} (enc : α -> Value) : Res α -> Ending
 | .val a _ => .returned (enc a)
 | .stop (.need p) _ => .panicked [needV p]
 | .stop (.err c) _ => .panicked [errV c]
def ReadsTo {α : Type} (R : Nat) (FA : Option Addr) (nf cf : Nat) (fed : List Nat) (W : World) (enc : α -> Value) (r : Res α) (e : Ending) (W' : World) : Prop :=
 e = endOf enc r ∧ RdAt R FA nf cf fed r.ats W' ∧ RB R W.heap.size W W'
def endPlain {α : Type} (enc : α -> Value) : Res α -> Ending := endOf enc
theorem must_any (b : Bool) (c : Nat) (W : World) :
  Calls Tryz.prog 51 #[.bool b,.int .i64 c] W fun e W' => e = (if b then .returned (.tuple #[]) else .panicked [errV c]) ∧ W' = W := by
 cases b
 ·go_enter Tryz.func51,Tryz.ntmps51
  go_wp2
  exact ⟨rfl,rfl,rfl⟩
 ·go_enter Tryz.func51,Tryz.ntmps51
  go_wp2
  go_end0
  exact ⟨rfl,rfl⟩
set_option maxRecDepth 100000 in
theorem pointer_any (x : Nat) (W : World) (hx : x < 18446744073709551616) :
  Calls Tryz.prog 78 #[.int .u64 x] W fun e W' => e = (if x < 1024 then .returned (.int .i64 x) else .panicked [errV 300]) ∧ W' = W := by
 have HM := Lib.hid (fun b => must_any b 300 W)
 by_cases h : x < 1024
 ·have h' : (x : Int) < 1024 := by omega
  have hu : IntKind.i64.wrap (x : Int) = (x : Int) := IntWalk.i64_in _ (by omega)
  go_enter Tryz.func78,Tryz.ntmps78
  go_wp2_with (go_at_call 51;refine (HM.out _).mono ?_;rintro e w' ⟨rfl,rfl⟩)
  go_ret
  exact ⟨by first | rfl | rw [if_pos h],rfl⟩
 ·have h' : ¬ (x : Int) < 1024 := by omega
  go_enter Tryz.func78,Tryz.ntmps78
  go_wp2_with (go_at_call 51;refine (HM.out _).mono ?_;rintro e w' ⟨rfl,rfl⟩)
  exact ⟨rfl,by first | rfl | rw [if_neg h],rfl⟩
set_option maxRecDepth 100000 in
theorem some_any (x : Nat) (W : World) (hx : x < 18446744073709551616) (l : List Nat) :
  Calls Tryz.prog 48 #[.int .u64 x] W fun e W' => e = endOf (fun a : Nat => .int .i64 a) (someP x l) ∧ W' = W := by
 have HM := Lib.hid (fun b => must_any b 300 W)
 have HP := pointer_any x W hx
 by_cases h0 : x = 0
 ·subst h0
  have HS : Hid (someP 0 l = .stop (.err 300) l) := rfl
  go_enter Tryz.func48,Tryz.ntmps48
  go_wp2_with (go_at_call 51;refine (HM.out _).mono ?_;rintro e w' ⟨rfl,rfl⟩)
  exact ⟨rfl,by rw [HS.out];rfl,rfl⟩
 ·have h' : ((x : Int) != 0) = true := by simp;omega
  have HS : Hid (someP x l = if x < 1024 then .val x l else .stop (.err 300) l) := by rw [Hid,someP,if_neg h0];rfl
  by_cases h : x < 1024
  ·rw [if_pos h] at HS HP
   have HP := Lib.hid HP
   go_enter Tryz.func48,Tryz.ntmps48
   go_wp2_with (first | (go_at_call 51;refine (HM.out _).mono ?_;rintro e w' ⟨rfl,rfl⟩) | (go_at_call 78;refine HP.out.mono ?_;rintro e w' ⟨rfl,rfl⟩))
   go_ret
   exact ⟨by rw [HS.out];rfl,rfl⟩
  ·rw [if_neg h] at HS HP
   have HP := Lib.hid HP
   go_enter Tryz.func48,Tryz.ntmps48
   go_wp2_with (first | (go_at_call 51;refine (HM.out _).mono ?_;rintro e w' ⟨rfl,rfl⟩) | (go_at_call 78;refine HP.out.mono ?_;rintro e w' ⟨rfl,rfl⟩))
   exact ⟨rfl,by rw [HS.out];rfl,rfl⟩
theorem pointerTo (x : Nat) (W : World) (hx : x < 18446744073709551616) (l : List Nat) :
  Calls Tryz.prog 78 #[.int .u64 x] W fun e W' => e = endOf (fun a : Nat => .int .i64 a) (pointerP x l) ∧ W' = W := by
 refine (pointer_any x W hx).mono ?_
 rintro e w' ⟨rfl,rfl⟩
 unfold pointerP
 split
 ·exact ⟨rfl,rfl⟩
 ·exact ⟨rfl,rfl⟩
theorem at_any (a b : Nat) (W : World) (h : a * 8 + b < 9223372036854775808) :
  Calls Tryz.prog 79 #[.int .i64 a,.int .i64 b] W fun e W' => e = .returned (.int .i64 (a * 8 + b : Nat)) ∧ W' = W := by
 have h1 : IntKind.i64.wrap ((a : Int) * 8) = ((a * 8 : Nat) : Int) := by rw [IntWalk.i64_in _ (by omega)];omega
 have h2 : IntKind.i64.wrap (((a * 8 : Nat) : Int) + (b : Int)) = ((a * 8 + b : Nat) : Int) := by rw [IntWalk.i64_in _ (by omega)];omega
 generalize a * 8 = c at *
 go_enter Tryz.func79,Tryz.ntmps79
 go_wp2
 go_ret
 exact ⟨rfl,rfl⟩
variable {R : Nat} {FA : Option Addr} {nf cf : Nat} {fed ats : List Nat}
theorem loadTo (p : Nat) (W : World) (hp : p < 9223372036854775808) (hl : ats.length <= 100000) (hnf : nf <= 100000) (hx64 : ∀ x ∈ fed,x < 18446744073709551616) (h : RdAt R FA nf cf fed ats W) :
  Calls Tryz.prog 49 #[.pointer (some ⟨R,0,none⟩),.int .i64 p] W (ReadsTo R FA nf cf fed W (fun a : Nat => .int .u64 a) (loadP fed p ats)) := by
 refine (load_any p W hp hl hnf hx64 h).mono ?_
 rintro e W' ⟨h1,h2,⟨x,hx,rfl⟩ | ⟨hx,rfl⟩⟩
 ·unfold loadP;rw [hx];exact ⟨rfl,h1,h2⟩
 ·unfold loadP;rw [hx];exact ⟨rfl,h1,h2⟩
end
end Go.Proofs.YtdpooagnbmpinaaGreatDoor
