import Derived.Test.YtdpooagnbmpinaaGreatDoorZEP
import Derived.Test.YtdpooagnbmpinaaGreatDoorZGX
import Derived.BigQuiet
import Derived.Deep.QuietTactic
import Derived.Test.YtdpooagnbmpinaaGreatDoorZKB
import Derived.Deep.RegionWith
import Derived.Test.YtdpooagnbmpinaaGreatDoorZGR
import Derived.Test.YtdpooagnbmpinaaGreatDoorZW5
namespace Go.Proofs.YtdpooagnbmpinaaGreatDoor
section
open Go.RowKit
structure RuAt (R : Nat) (FA : Option Addr) (nf cf : Nat) (fed : List Nat) (u : Nat) (W : World) : Prop where
 lt : R < W.heap.size
 fedc : W.cell? ⟨R,0,none⟩ = some (.slice FA nf cf)
 fedl : fed.length = nf
 fedr : RowAt W FA (fed.map encW)
 feda : 0 < fed.length -> ∀ b off,FA = some ⟨b,off,none⟩ -> b ≠ R
 usd : W.cell? ⟨R,1,none⟩ = some (.int .i64 u)
 frz : W.frozen? ⟨R,1,none⟩ = false
structure UB (R B : Nat) (W W' : World) : Prop where
 os : W'.os = W.os
 tape : W'.tape = W.tape
 output : W'.output = W.output
 size : W.heap.size <= W'.heap.size
 keep : ∀ b,b < B -> b ≠ R -> W'.heap[b]? = W.heap[b]?
theorem UB.refl (R B : Nat) (W : World) : UB R B W W := ⟨rfl,rfl,rfl,Nat.le_refl _,fun _ _ _ => rfl⟩
theorem UB.trans {R B : Nat} {W W1 W2 : World} (h : UB R B W W1) (k : UB R B W1 W2) : UB R B W W2 :=
 ⟨k.os.trans h.os,k.tape.trans h.tape,k.output.trans h.output,Nat.le_trans h.size k.size,fun b hb hf => (k.keep b hb hf).trans (h.keep b hb hf)⟩
theorem UB.mono {R B B' : Nat} {W W' : World} (h : UB R B W W') (hB : B' <= B) : UB R B' W W' := ⟨h.os,h.tape,h.output,h.size,fun b hb hf => h.keep b (Nat.lt_of_lt_of_le hb hB) hf⟩
theorem UB.of_below {R n : Nat} {W W' : World} (h : Below n W W') : UB R n W W' := ⟨h.os,h.tape,h.output,h.size,fun b hb _ => h.block b hb⟩
theorem UB.drew' (R B : Nat) (W : World) : UB R B W { W with drawn := W.drawn + 1 } := ⟨rfl,rfl,rfl,Nat.le_refl _,fun _ _ _ => rfl⟩
theorem UB.to_below {R B n : Nat} {W W' : World} (h : UB R B W W') (hn : n <= B) (hR : n <= R) : Below n W W' :=
 ⟨h.os,h.tape,h.output,h.size,fun b hb => h.keep b (by omega) (by omega)⟩
variable {R : Nat} {FA : Option Addr} {nf cf u : Nat} {fed : List Nat} {W W' : World}
theorem UB.cell {B b off : Nat} (h : UB R B W W') (hb : b < B) (hf : b ≠ R) : W'.cell? ⟨b,off,none⟩ = W.cell? ⟨b,off,none⟩ := World.cell?_of_block (w := W) (h.keep b hb hf)
theorem UB.frozen {B b off : Nat} (h : UB R B W W') (hb : b < B) (hf : b ≠ R) : W'.frozen? ⟨b,off,none⟩ = W.frozen? ⟨b,off,none⟩ := World.frozen?_of_block (w := W) (h.keep b hb hf)
theorem UB.set {B b i : Nat} {v : Value} {W0 : World} (h : UB R B W0 W) (hb : B <= b ∨ b = R) : UB R B W0 (W.setCell ⟨b,i,none⟩ v) :=
 ⟨h.os,h.tape,h.output,by simpa [World.setCell] using h.size,fun k hk hf => (Below.heap_setCell W ⟨b,i,none⟩ v k (by show k ≠ b;omega)).trans (h.keep k hk hf)⟩
theorem UB.alloc {B : Nat} {W0 : World} (h : UB R B W0 W) (hB : B <= W.heap.size) (o : Obj) : UB R B W0 (W.alloc o) := h.trans (UB.of_below ((Below.refl B W).alloc hB o))
theorem UB.putTo {k X : Nat} {f : Nat -> Value} {W0 : World} (h : UB R k W0 W) (hn : k <= X) : ∀ m,UB R k W0 (putTo W X f m)
 | 0 => h
 | m + 1 => (UB.putTo h hn m).set (.inl hn)
theorem UB.putObj {B b : Nat} {W0 : World} {o : Obj} (h : UB R B W0 W) (hb : B <= b) : UB R B W0 (W.putObj b o) :=
 ⟨h.os,h.tape,h.output,by simpa [World.putObj] using h.size,fun k hk hf => (World.putObj_heap_other (by omega)).trans (h.keep k hk hf)⟩
theorem RuAt.keep (h : RuAt R FA nf cf fed u W) (hsz : W.heap.size <= W'.heap.size) (hk : ∀ b,b < W.heap.size -> (b = R ∨ (0 < fed.length ∧ ∃ off,FA = some ⟨b,off,none⟩)) -> W'.heap[b]? = W.heap[b]?) : RuAt R FA nf cf fed u W' := by
 have e := hk R h.lt (.inl rfl)
 refine ⟨Nat.lt_of_lt_of_le h.lt hsz,(World.cell?_of_block (w := W) e).trans h.fedc,h.fedl,fun hn => ?_,h.feda,(World.cell?_of_block (w := W) e).trans h.usd,(World.frozen?_of_block (w := W) e).trans h.frz⟩
 obtain ⟨b,off,e,hb,hc⟩ := h.fedr hn
 exact ⟨b,off,e,Nat.lt_of_lt_of_le hb hsz,fun k v hv => (World.cell?_of_block (w := W) (hk b hb (.inr ⟨by rw [List.length_map] at hn;exact hn,off,e⟩))).trans (hc k v hv)⟩
theorem RuAt.below (h : RuAt R FA nf cf fed u W) (hb : Below W.heap.size W W') : RuAt R FA nf cf fed u W' := h.keep hb.size fun b hb' _ => hb.block b hb'
theorem RuAt.alloc (h : RuAt R FA nf cf fed u W) (o : Obj) : RuAt R FA nf cf fed u (W.alloc o) := h.below ((Below.refl _ W).alloc (Nat.le_refl _) o)
theorem RuAt.drew' (h : RuAt R FA nf cf fed u W) : RuAt R FA nf cf fed u { W with drawn := W.drawn + 1 } := h.below ((Below.refl _ W).drew)
theorem RuAt.drewN (h : RuAt R FA nf cf fed u W) (n : Nat) : RuAt R FA nf cf fed u (W.drewN n) := h.keep (Nat.le_refl _) fun _ _ _ => rfl
theorem UB.drewN {B : Nat} {W0 : World} (h : UB R B W0 W) (n : Nat) : UB R B W0 (W.drewN n) := ⟨h.os,h.tape,h.output,h.size,h.keep⟩
def OffU (R : Nat) (FA : Option Addr) (nf b : Nat) : Prop := b ≠ R ∧ (0 < nf -> ∀ off,FA ≠ some ⟨b,off,none⟩)
theorem RuAt.off (h : RuAt R FA nf cf fed u W) {b : Nat} (hb : W.heap.size <= b) : OffU R FA nf b :=
 ⟨fun e => by have := h.lt;omega,fun hn off e => by
  obtain ⟨b',off',e',hb',_⟩ := h.fedr (by rw [List.length_map,h.fedl];exact hn)
  rw [e] at e'
  cases e'
  omega⟩
theorem RuAt.set {b i : Nat} {v : Value} (h : RuAt R FA nf cf fed u W) (hb : OffU R FA nf b) : RuAt R FA nf cf fed u (W.setCell ⟨b,i,none⟩ v) :=
 h.keep (by simp [World.setCell]) fun k _ hk => Below.heap_setCell W ⟨b,i,none⟩ v k (by
  rintro rfl
  rcases hk with e | ⟨hn,off,e⟩
  ·exact hb.1 e
  ·exact hb.2 (by rw [<- h.fedl];exact hn) off e)
theorem RuAt.putTo {X : Nat} {f : Nat -> Value} (h : RuAt R FA nf cf fed u W) (hb : OffU R FA nf X) : ∀ m,RuAt R FA nf cf fed u (putTo W X f m)
 | 0 => h
 | m + 1 => (RuAt.putTo h hb m).set hb
theorem RuAt.putObj {b : Nat} {o : Obj} (h : RuAt R FA nf cf fed u W) (hb : OffU R FA nf b) : RuAt R FA nf cf fed u (W.putObj b o) :=
 h.keep (by simp [World.putObj]) fun k _ hk => World.putObj_heap_other (by
  rintro rfl
  rcases hk with e | ⟨hn,off,e⟩
  ·exact hb.1 e
  ·exact hb.2 (by rw [<- h.fedl];exact hn) off e)
theorem RuAt.use (h : RuAt R FA nf cf fed u W) (u' : Nat) : RuAt R FA nf cf fed u' (W.setCell ⟨R,1,none⟩ (.int .i64 u')) := by
 refine ⟨by simpa [World.setCell] using h.lt,(World.cell?_setCell_other _ _ _ _ (by intro e;cases e)).trans h.fedc,h.fedl,fun hn => ?_,h.feda,World.cell?_setCell_same' _ _ _ (by rw [h.usd];rfl),(World.frozen?_setCell _ _ _ _).trans h.frz⟩
 obtain ⟨b,off,e,hb,hc⟩ := h.fedr hn
 have hne := h.feda (by rw [List.length_map] at hn;exact hn) b off e
 exact ⟨b,off,e,by simpa [World.setCell] using hb,fun k v hv => (World.cell?_setCell_other _ _ _ _ (by intro e;injection e with e;exact hne e.symm)).trans (hc k v hv)⟩
theorem RuAt.useI (h : RuAt R FA nf cf fed u W) (u' : Nat) {v : Int} (hv : v = (u' : Int)) : RuAt R FA nf cf fed u' (W.setCell ⟨R,1,none⟩ (.int .i64 v)) := by subst hv;exact h.use u'
def needU (p : Nat) : PanicEntry := { v := .iface 95 (.int .i64 p),recovered := false }
def outU : Out -> PanicEntry
 | .need p => needU p
 | .err c => errV c
def endU {α : Type} (enc : α -> Value) : Res α -> Ending
 | .val a _ => .returned (enc a)
 | .stop o _ => .panicked [outU o]
def BehindU {α : Type} (R : Nat) (FA : Option Addr) (nf cf : Nat) (fed : List Nat) (r : Res α) (W : World) : Prop :=
 match r with
 | .stop (.need _) _ => ∃ u,RuAt R FA nf cf fed u W
 | r => RuAt R FA nf cf fed r.ats.length W
def ReadsU {α : Type} (R : Nat) (FA : Option Addr) (nf cf : Nat) (fed : List Nat) (W : World) (enc : α -> Value) (r : Res α) (e : Ending) (W' : World) : Prop :=
 e = endU enc r ∧ BehindU R FA nf cf fed r W' ∧ UB R W.heap.size W W'
end
section
open Go.RowKit
theorem reads_case {α : Type} {P : Program} {f : FuncId} {args : Array Value} {R : Nat} {FA : Option Addr} {nf cf : Nat} {fed : List Nat} {W : World} {enc : α -> Value} {r : Res α} {Q : Ending -> World -> Prop}
  (h : Calls P f args W (ReadsU R FA nf cf fed W enc r))
  (hs : ∀ (o : Out) (l : List Nat) (W' : World),Hid (r = .stop o l) -> Hid (BehindU (α := Nat) R FA nf cf fed (.stop o l) W') -> Hid (UB R W.heap.size W W') -> Q (.panicked [outU o]) W')
  (hv : ∀ (a : α) (l : List Nat) (W' : World),Hid (r = .val a l) -> Hid (RuAt R FA nf cf fed l.length W') -> Hid (UB R W.heap.size W W') -> Q (.returned (enc a)) W') : Calls P f args W Q := by
 refine h.mono ?_
 rintro e W' ⟨rfl,h1,h2⟩
 cases r with
 | val a l => exact hv a l W' rfl h1 h2
 | stop o l => exact hs o l W' rfl (by cases o <;> exact h1) h2
theorem ends_stop {α : Type} {R : Nat} {FA : Option Addr} {nf cf : Nat} {fed : List Nat} {W W' : World} {enc : α -> Value} {r : Res α} {o : Out} {l : List Nat} (hr : r = .stop o l) (h1 : BehindU (α := Nat) R FA nf cf fed (.stop o l) W') (h2 : UB R W.heap.size W W') : ReadsU R FA nf cf fed W enc r (.panicked [outU o]) W' := by
 subst hr
 exact ⟨rfl,by cases o <;> exact h1,h2⟩
theorem ends_err {α : Type} {R : Nat} {FA : Option Addr} {nf cf : Nat} {fed : List Nat} {W W' : World} {enc : α -> Value} {r : Res α} {c : Nat} {l : List Nat} (hr : r = .stop (.err c) l) (h1 : RuAt R FA nf cf fed l.length W') (h2 : UB R W.heap.size W W') : ReadsU R FA nf cf fed W enc r (.panicked [errV c]) W' := by
 subst hr
 exact ⟨rfl,h1,h2⟩
theorem ends_val {α : Type} {R : Nat} {FA : Option Addr} {nf cf : Nat} {fed : List Nat} {W W' : World} {enc : α -> Value} {r : Res α} {a : α} {l : List Nat} (hr : r = .val a l) (h1 : RuAt R FA nf cf fed l.length W') (h2 : UB R W.heap.size W W') : ReadsU R FA nf cf fed W enc r (.returned (enc a)) W' := by
 subst hr
 exact ⟨rfl,h1,h2⟩
theorem lmust_any (b : Bool) (c : Nat) (W : World) :
  Calls Tryz.prog 37 #[.bool b,.int .i64 c] W fun e W' => e = (if b then .returned (.tuple #[]) else .panicked [errV c]) ∧ W' = W := by
 cases b
 ·go_enter Tryz.func37,Tryz.ntmps37
  go_wp2
  exact ⟨rfl,rfl,rfl⟩
 ·go_enter Tryz.func37,Tryz.ntmps37
  go_wp2
  go_end0
  exact ⟨rfl,rfl⟩
theorem lat_any (a b : Nat) (W : World) (h : a * 8 + b < 9223372036854775808) :
  Calls Tryz.prog 112 #[.int .i64 a,.int .i64 b] W fun e W' => e = .returned (.int .i64 (a * 8 + b : Nat)) ∧ W' = W := by
 have h1 : IntKind.i64.wrap ((a : Int) * 8) = ((a * 8 : Nat) : Int) := by rw [IntWalk.i64_in _ (by omega)];omega
 have h2 : IntKind.i64.wrap (((a * 8 : Nat) : Int) + (b : Int)) = ((a * 8 + b : Nat) : Int) := by rw [IntWalk.i64_in _ (by omega)];omega
 generalize a * 8 = c at *
 go_enter Tryz.func112,Tryz.ntmps112
 go_wp2
 go_ret
 exact ⟨rfl,rfl⟩
set_option maxRecDepth 100000 in
theorem lpointer_any (x : Nat) (W : World) (hx : x < 18446744073709551616) :
  Calls Tryz.prog 114 #[.int .u64 x] W fun e W' => e = (if x < 1024 then .returned (.int .i64 x) else .panicked [errV 300]) ∧ W' = W := by
 have HM := Lib.hid (fun b => lmust_any b 300 W)
 by_cases h : x < 1024
 ·have h' : (x : Int) < 1024 := by omega
  have hu : IntKind.i64.wrap (x : Int) = (x : Int) := IntWalk.i64_in _ (by omega)
  go_enter Tryz.func114,Tryz.ntmps114
  go_wp2_with (go_at_call 37;refine (HM.out _).mono ?_;rintro e w' ⟨rfl,rfl⟩)
  go_ret
  exact ⟨by first | rfl | rw [if_pos h],rfl⟩
 ·have h' : ¬ (x : Int) < 1024 := by omega
  go_enter Tryz.func114,Tryz.ntmps114
  go_wp2_with (go_at_call 37;refine (HM.out _).mono ?_;rintro e w' ⟨rfl,rfl⟩)
  exact ⟨rfl,by first | rfl | rw [if_neg h],rfl⟩
theorem lpointer_case {x : Nat} {W : World} {l : List Nat} {Q : Ending -> World -> Prop} (hx : x < 18446744073709551616) (hs : Hid (pointerP x l = .stop (.err 300) l) -> Q (.panicked [errV 300]) W) (hv : Hid (pointerP x l = .val x l) -> Hid (x < 1024) -> Q (.returned (.int .i64 x)) W) :
  Calls Tryz.prog 114 #[.int .u64 x] W Q := by
 refine (lpointer_any x W hx).mono ?_
 rintro e w' ⟨rfl,rfl⟩
 by_cases h : x < 1024
 ·rw [if_pos h];exact hv (by rw [Hid,pointerP,if_pos h]) h
 ·rw [if_neg h];exact hs (by rw [Hid,pointerP,if_neg h])
variable {R : Nat} {FA : Option Addr} {nf cf : Nat} {fed ats : List Nat}
set_option maxRecDepth 100000 in
set_option maxHeartbeats 1000000 in
theorem lload_any (p : Nat) (W : World) (hp : p < 9223372036854775808) (hl : ats.length <= nf) (hnf : nf <= 100000) (h : RuAt R FA nf cf fed ats.length W) :
  Calls Tryz.prog 111 #[.pointer (some ⟨R,0,none⟩),.int .i64 p] W (ReadsU R FA nf cf fed W (fun a : Nat => .int .u64 a) (loadP fed p ats)) := by
 have HP : Hid (∀ x,fed[ats.length]? = some x -> loadP fed p ats = .val x (ats ++ [p])) := fun x hx => by unfold loadP;rw [hx]
 have HN : Hid (fed[ats.length]? = none -> loadP fed p ats = .stop (.need p) (ats ++ [p])) := fun hx => by unfold loadP;rw [hx]
 have HLN : Hid ((ats ++ [p]).length = ats.length + 1) := by rw [Hid,List.length_append];rfl
 have hfl := h.fedl
 generalize hm : ats.length = m at *
 clear hm
 have HR := Lib.hid h
 have c0 := h.fedc
 have c1 := h.usd
 have f1 := h.frz
 by_cases hlt : m < nf
 ·have hmf : m < fed.length := by omega
  have HGE : Hid (fed[m]? = some fed[m]) := List.getElem?_eq_getElem hmf
  have HU := Lib.hid (h.use (m + 1))
  obtain ⟨b,off,rfl,hb,hcb⟩ := HU.out.fedr.get (k := m) (u := encW fed[m]) (by rw [List.getElem?_map,List.getElem?_eq_getElem hmf];rfl)
  generalize fed[m] = x at *
  have hne : ((m : Int) == (nf : Int)) = false := by rw [beq_eq_false_iff_ne];omega
  have hm0 : (0 : Int) <= (m : Int) := Int.natCast_nonneg _
  have c2 := HU.out.usd
  have c3 := HU.out.fedc
  unfold encW at hcb
  have HB : Hid (UB R W.heap.size W (W.setCell ⟨R,1,none⟩ (.int .i64 (m + 1 : Nat)))) := (UB.refl _ _ _).set (.inr rfl)
  have e1 : ((m + 1 : Nat) : Int) = (m : Int) + 1 := by omega
  have hadd : IntKind.i64.wrap ((m : Int) + 1) = (m : Int) + 1 := IntWalk.i64_in _ (by omega)
  have hwm : IntKind.i64.wrap (m : Int) = (m : Int) := IntWalk.i64_in _ (by omega)
  have hltI : (m : Int) < (nf : Int) := by omega
  rw [e1] at c2 c3 hcb
  have hcb2 : ∀ n,((W.drewN n).setCell ⟨R,1,none⟩ (.int .i64 ((m : Int) + 1))).cell? ⟨b,off + m,none⟩ = some (.int .u64 x) := fun n => hcb
  have HE1 := Lib.hid e1
  clear h hb e1
  go_enter Tryz.func111,Tryz.ntmps111
  go_wp2_with fail
  go_quiet (fail)
  go_wp2_with fail
  go_quiet (fail)
  go_wp2_with fail
  go_ret
  exact ends_val (HP.out x HGE.out) (by rw [HLN.out];exact ((HR.out.drewN _).useI (m + 1) (by omega)).drewN _) ((((UB.refl R W.heap.size W).drewN _).set (b := R) (i := 1) (.inr rfl)).drewN _)
 ·have HGE : Hid (fed[m]? = none) := List.getElem?_eq_none (by omega)
  obtain rfl : m = nf := by omega
  have hne : ((m : Int) == (m : Int)) = true := by simp
  clear hl
  go_enter Tryz.func111,Tryz.ntmps111
  go_wp2_with fail
  go_quiet (fail)
  go_wp2_with fail
  exact ⟨rfl,ends_stop (HN.out HGE.out) ⟨_,HR.out.drewN _⟩ ((UB.refl R W.heap.size W).drewN _)⟩
end
section
open Go.RowKit
variable {R : Nat} {FA : Option Addr} {nf cf : Nat} {fed ats : List Nat}
set_option maxRecDepth 100000 in
set_option maxHeartbeats 1000000 in
theorem lsize_any (top : Nat) (W : World) (htop : top <= 100000) (hl : ats.length <= nf) (hnf : nf <= 100000) (hx64 : ∀ x ∈ fed,x < 18446744073709551616) (h : RuAt R FA nf cf fed ats.length W) :
  Calls Tryz.prog 58 #[.pointer (some ⟨R,0,none⟩),.int .i64 top] W (ReadsU R FA nf cf fed W (fun a : Nat => .int .i64 a) (sizeP fed top ats)) := by
 have hat := fun W => lat_any top 0 W (by omega)
 have HE : Hid (sizeP fed top ats = (loadP fed (top * 8 + 0) ats).bind fun w ats => if w <= 448 then .val w ats else .stop (.err 300) ats) := rfl
 obtain ⟨p,hp⟩ : ∃ p,top * 8 + 0 = p := ⟨_,rfl⟩
 rw [hp] at hat HE
 have hpb : p < 9223372036854775808 := by omega
 have HAT := Lib.hid hat
 have HM := Lib.hid (fun b => lmust_any b 300)
 have HX := Lib.hid hx64
 have HL := Lib.hid (lload_any p { W with drawn := W.drawn + 1 } hpb hl hnf h.drew')
 clear h hat hp hx64
 go_enter Tryz.func58,Tryz.ntmps58
 go_wp2_with fail
 refine box_tail 5 (by kernel_rfl) (by kernel_rfl) ?_
 simp only [List.take_succ_cons,List.take_zero,List.drop_succ_cons,List.drop_zero]
 iterate 4
  refine box_step (fun K hK => ?_)
  go_simp
  refine hK _ ?_
  clear hK K
 refine box_step (fun K hK => ?_)
 go_simp
 refine ⟨_,HAT.out _,hK _ ?_⟩
 clear hK K
 refine ⟨wpStill_nil ?_⟩
 go_wp2_with fail
 refine reads_case HL.out ?_ ?_
 ·intro o l w2 hr hb hu
  go_wp2_with fail
  exact ⟨rfl,ends_stop (by rw [HE.out,hr.out];rfl) hb.out ((UB.drew' R W.heap.size W).trans hu.out)⟩
 ·intro x l w2 hr hb hu
  have hx := HX.out x (loadP_val hr.out).2
  have HS : Hid (sizeP fed top ats = if x <= 448 then .val x l else .stop (.err 300) l) := by rw [Hid,HE.out,hr.out];rfl
  have hux : IntKind.i64.wrap (x : Int) = (x : Int) ∨ ¬ x <= 448 := by
   by_cases h : x <= 448
   ·exact .inl (IntWalk.i64_in _ (by omega))
   ·exact .inr h
  by_cases h4 : x <= 448
  ·have h4' : decide ((x : Int) <= 448) = true := decide_eq_true (by omega)
   have hwx : IntKind.i64.wrap (x : Int) = (x : Int) := IntWalk.i64_in _ (by omega)
   have H4 := Lib.hid h4
   clear hux
   go_wp2_with (go_at_call 37;refine (HM.out _ _).mono ?_;rintro e w' ⟨rfl,rfl⟩)
   go_ret
   exact ends_val (by rw [HS.out,if_pos H4.out]) hb.out ((UB.drew' R W.heap.size W).trans hu.out)
  ·have h4' : decide ((x : Int) <= 448) = false := decide_eq_false (by omega)
   have H4 := Lib.hid h4
   clear hux
   go_wp2_with (go_at_call 37;refine (HM.out _ _).mono ?_;rintro e w' ⟨rfl,rfl⟩)
   exact ⟨rfl,ends_err (by rw [HS.out,if_neg H4.out]) hb.out ((UB.drew' R W.heap.size W).trans hu.out)⟩
def getF (l : List Nat) : Nat -> Nat := fun k => l.getD k 0
theorem getF_snoc_lt {l : List Nat} {x k : Nat} (h : k < l.length) : getF (l ++ [x]) k = getF l k := by
 unfold getF
 rw [List.getD_eq_getElem?_getD,List.getD_eq_getElem?_getD,List.getElem?_append_left h]
theorem getF_snoc {l : List Nat} {x : Nat} : getF (l ++ [x]) l.length = x := by
 unfold getF
 rw [List.getD_eq_getElem?_getD]
 simp
theorem getF_out {l : List Nat} {k : Nat} (h : l.length <= k) : getF l k = 0 := by
 unfold getF
 rw [List.getD_eq_getElem?_getD,List.getElem?_eq_none h]
 rfl
theorem getF_lt {l : List Nat} (h : ∀ x ∈ l,x < 18446744073709551616) (k : Nat) : getF l k < 18446744073709551616 := by
 by_cases hk : k < l.length
 ·unfold getF
  rw [List.getD_eq_getElem?_getD,List.getElem?_eq_getElem hk]
  exact h _ (List.getElem_mem hk)
 ·rw [getF_out (by omega)];omega
def nameFin (many : Nat) (ws ats : List Nat) : Res (List UInt8) := if (readL (getF ws) (min many 41 : Nat)).2 = 0 then .val (readL (getF ws) (min many 41 : Nat)).1 ats else .stop (.err 300) ats
def wordsC (l : List Nat) : Nat -> Value := fun j => .int .u64 (getF l j : Nat)
theorem CellsAt.word {W : World} {X n : Nat} {l : List Nat} {x : Nat} (h : CellsAt W X n (wordsC l)) (hl : l.length < n) : CellsAt (W.setCell ⟨X,l.length,none⟩ (.int .u64 x)) X n (wordsC (l ++ [x])) := by
 refine ⟨fun j hj => ?_,fun j => (World.frozen?_setCell _ _ _ _).trans (h.2 j)⟩
 by_cases e : j = l.length
 ·subst e
  rw [World.cell?_setCell_same' _ _ _ (by rw [h.1 _ hl];rfl)]
  unfold wordsC
  rw [getF_snoc]
 ·rw [World.cell?_setCell_other _ _ _ _ (by intro e';injection e' with _ e';exact e e'.symm),h.1 j hj]
  unfold wordsC
  by_cases hlt : j < l.length
  ·rw [getF_snoc_lt hlt]
  ·rw [getF_out (by omega),getF_out (by rw [List.length_append];simp;omega)]
theorem CellsAt.ub {R m : Nat} {W W' : World} {X n : Nat} {f : Nat -> Value} (h : CellsAt W X n f) (hb : UB R m W W') (hX : X < m) (hf : X ≠ R) : CellsAt W' X n f := ⟨fun i hi => (hb.cell hX hf).trans (h.1 i hi),fun i => (hb.frozen hX hf).trans (h.2 i)⟩
set_option maxRecDepth 100000 in
set_option maxHeartbeats 2000000 in
theorem lname_any (line : Nat) (W : World) (hline : line <= 100000) (hl : ats.length <= nf) (hnf : nf <= 100000) (hx64 : ∀ x ∈ fed,x < 18446744073709551616) (h : RuAt R FA nf cf fed ats.length W) :
  Calls Tryz.prog 62 #[.pointer (some ⟨R,0,none⟩),.int .i64 line] W (ReadsU R FA nf cf fed W (fun s : List UInt8 => .string (ofBytes s)) (nameP fed line ats)) := by
 have HE : Hid (nameP fed line ats = (loadP fed (line * 8 + 2) ats).bind fun many ats => (loadsP fed 5 (line * 8 + 3) [] ats).bind (nameFin many)) := rfl
 have hat := fun W => lat_any line 2 W (by omega)
 obtain ⟨p,hp⟩ : ∃ p,line * 8 + 2 = p := ⟨_,rfl⟩
 rw [hp] at hat HE
 have hpb : p < 9223372036854775808 := by omega
 have HAT := Lib.hid hat
 have HM := Lib.hid (fun b => lmust_any b 300)
 have HX := Lib.hid hx64
 have HL := Lib.hid (lload_any p { W with drawn := W.drawn + 1 } hpb hl hnf h.drew')
 have hRl := h.lt
 have HFL := Lib.hid h.fedl
 clear h hat hp hx64
 go_enter Tryz.func62,Tryz.ntmps62
 go_wp2_with fail
 refine box_tail 5 (by kernel_rfl) (by kernel_rfl) ?_
 simp only [List.take_succ_cons,List.take_zero,List.drop_succ_cons,List.drop_zero]
 iterate 4
  refine box_step (fun K hK => ?_)
  go_simp
  refine hK _ ?_
  clear hK K
 refine box_step (fun K hK => ?_)
 go_simp
 refine ⟨_,HAT.out _,hK _ ?_⟩
 clear hK K
 refine ⟨wpStill_nil ?_⟩
 go_wp2_with fail
 refine reads_case HL.out ?_ ?_
 ·intro o l w2 hr hb hu
  go_wp2_with fail
  exact ⟨rfl,ends_stop (by rw [HE.out,hr.out];rfl) hb.out ((UB.drew' R W.heap.size W).trans hu.out)⟩
 ·intro many l w2 hr hb hu
  have hm := HX.out many (loadP_val hr.out).2
  have hlen : l.length <= nf := by have := loadP_len hr.out;rw [HFL.out] at this;exact this
  have HS : Hid (nameP fed line ats = (loadsP fed 5 (line * 8 + 3) [] l).bind (nameFin many)) := by rw [Hid,HE.out,hr.out];rfl
  have HU0 := Lib.hid ((UB.drew' R W.heap.size W).trans hu.out)
  have hs2 : W.heap.size <= w2.heap.size := HU0.out.size
  have hb0 : Below w2.heap.size w2 (w2.alloc (.cells #[.int .u64 0,.int .u64 0,.int .u64 0,.int .u64 0,.int .u64 0] 190)) := (Below.refl _ _).alloc (Nat.le_refl _) _
  have HC0 : Hid (CellsAt (w2.alloc (.cells #[.int .u64 0,.int .u64 0,.int .u64 0,.int .u64 0,.int .u64 0] 190)) w2.heap.size 5 (wordsC [])) :=
   cellsAt_new _ _ _ _ _ fun i hi => match i,hi with | 0,_ => rfl | 1,_ => rfl | 2,_ => rfl | 3,_ => rfl | 4,_ => rfl
  have HB0 := Lib.hid (hb.out.below hb0)
  have HU1 := Lib.hid (HU0.out.trans ((UB.of_below hb0).mono hs2))
  have hoff := Lib.hid (hb.out.off (Nat.le_refl w2.heap.size))
  have hXR : w2.heap.size ≠ R := hoff.out.1
  have hsz0 : (w2.alloc (.cells #[.int .u64 0,.int .u64 0,.int .u64 0,.int .u64 0,.int .u64 0] 190)).heap.size = w2.heap.size + 1 := by simp
  clear hb0 hr hu hb HE HL HAT
  go_wp2_with fail
  go_loopw [16] (fun i wr => ∃ (k : Nat) (ws l' : List Nat),k <= 5 ∧ ws.length = k ∧ i = .int .i64 k ∧ l'.length <= nf ∧ (∀ x ∈ ws,x < 18446744073709551616) ∧ RuAt R FA nf cf fed l'.length wr ∧ CellsAt wr w2.heap.size 5 (wordsC ws) ∧ UB R W.heap.size W wr ∧ w2.heap.size < wr.heap.size ∧ Hid (nameP fed line ats = (loadsP fed (5 - k) (line * 8 + (3 + k)) ws l').bind (nameFin many))) (fun i _ => 5 - (intOf i).toNat)
  case atStart => exact ⟨0,[],l,by omega,rfl,rfl,hlen,(by intro x hx;cases hx),HB0.out,HC0.out,HU1.out,by rw [hsz0];omega,HS.out⟩
  case round =>
   obtain ⟨k,ws,l',hk,hwl,rfl,hl',hws,hru,hca,hub,hXs,hq⟩ := hrel
   have HWL := Lib.hid hwl
   have HWS := Lib.hid hws
   have HRU := Lib.hid hru
   have HCA := Lib.hid hca
   have HUB := Lib.hid hub
   have hsz := hub.size
   clear hwl hws hca hub
   by_cases hlt : k < 5
   ·have hw3 : IntKind.i64.wrap (3 + (k : Int)) = 3 + (k : Int) := IntWalk.i64_in _ (by omega)
    have hat := fun W => lat_any line (3 + k) W (by omega)
    have e3 : ((3 + k : Nat) : Int) = 3 + (k : Int) := by omega
    rw [e3] at hat
    have HQ : Hid (nameP fed line ats = ((loadP fed (line * 8 + (3 + k)) l').bind fun x ats => loadsP fed (5 - (k + 1)) (line * 8 + (3 + (k + 1))) (ws ++ [x]) ats).bind (nameFin many)) := by
     rw [Hid,hq.out,show 5 - k = (5 - (k + 1)) + 1 from by omega];rfl
    obtain ⟨q,hq'⟩ : ∃ q,line * 8 + (3 + k) = q := ⟨_,rfl⟩
    rw [hq'] at hat HQ
    have hqb : q < 9223372036854775808 := by omega
    have HAT := Lib.hid hat
    have HL := Lib.hid (lload_any q { wr with drawn := wr.drawn + 1 } hqb hl' hnf hru.drew')
    have hk5 : (k : Int) < 5 := by omega
    clear hat hq' hq e3 hru
    go_wp2_with fail
    have HWC := Lib.hid HCA.out
    go_region_with (first | (go_at_call 112;refine (HAT.out _).mono ?_;rintro e w9 ⟨rfl,rfl⟩) | (go_at_call 111;refine reads_case HL.out ?_ ?_;(intro o l2 w3 hr hb hu;exact ⟨rfl,ends_stop (by rw [HQ.out,hr.out];rfl) hb.out (HUB.out.trans ((UB.drew' R W.heap.size wr).trans (hu.out.mono hsz)))⟩);intro x l2 w3 hr hb hu;have hc3 := (hu.out.cell (b := w2.heap.size) (off := k) hXs hXR).trans (HCA.out.1 k hlt);have hf3 := (hu.out.frozen (b := w2.heap.size) (off := k) hXs hXR).trans (HCA.out.2 k)))
    have hX := HX.out x (loadP_val hr.out).2
    have HL2 : Hid (l2.length <= nf) := by have := loadP_len hr.out;rw [HFL.out] at this;exact this
    have HQ2 : Hid (nameP fed line ats = (loadsP fed (5 - (k + 1)) (line * 8 + (3 + (k + 1))) (ws ++ [x]) l2).bind (nameFin many)) := by rw [Hid,HQ.out,hr.out];rfl
    have HC3 : Hid (CellsAt (w3.setCell ⟨w2.heap.size,k,none⟩ (.int .u64 x)) w2.heap.size 5 (wordsC (ws ++ [x]))) := by
     have h0 : CellsAt w3 w2.heap.size 5 (wordsC ws) := HCA.out.ub ((UB.drew' R wr.heap.size wr).trans hu.out) hXs hXR
     have h1 := h0.word (x := x) (by rw [HWL.out];exact hlt)
     rwa [HWL.out] at h1
    have HR3 := Lib.hid (hb.out.set (b := w2.heap.size) (i := k) (v := .int .u64 x) hoff.out)
    have HU3 : Hid (UB R W.heap.size W (w3.setCell ⟨w2.heap.size,k,none⟩ (.int .u64 x))) := (HUB.out.trans ((UB.drew' R W.heap.size wr).trans (hu.out.mono hsz))).set (.inl hs2)
    have hXs3 : w2.heap.size < (w3.setCell ⟨w2.heap.size,k,none⟩ (.int .u64 x)).heap.size := by have := hu.out.size;simp [World.setCell] at *;omega
    clear hr hb hu hc3 hf3 HL HAT
    go_wp2_with fail
    go_roundw
    case rel => exact ⟨k + 1,ws ++ [x],l2,by omega,by rw [List.length_append,HWL.out];rfl,by go_num,HL2.out,(by intro y hy;rcases List.mem_append.1 hy with hy | hy;exact HWS.out y hy;rw [List.mem_singleton.1 hy];exact hX),HR3.out,HC3.out,HU3.out,hXs3,HQ2.out⟩
    case measure => simp [intOf];omega
   ·obtain rfl : k = 5 := by omega
    have HQ : Hid (nameP fed line ats = nameFin many ws l') := by rw [Hid,hq.out];rfl
    have c0 := HCA.out.1 0 (by omega)
    have c1 := HCA.out.1 1 (by omega)
    have c2 := HCA.out.1 2 (by omega)
    have c3 := HCA.out.1 3 (by omega)
    have c4 := HCA.out.1 4 (by omega)
    unfold wordsC at c0 c1 c2 c3 c4
    have hfl := getF_lt HWS.out
    obtain ⟨m,hmm⟩ : ∃ m : Nat,min many 41 = m := ⟨_,rfl⟩
    have hm41 : m <= 41 := by omega
    have hmi : min (many : Int) 41 = (m : Int) := by omega
    have hrd := fun W => labelRead_any (getF ws) hfl (m : Int) W (by rw [WalkArith.wf_i64];omega)
    have HQ2 : Hid (nameP fed line ats = if (readL (getF ws) (m : Nat)).2 = 0 then .val (readL (getF ws) (m : Nat)).1 l' else .stop (.err 300) l') := by rw [Hid,HQ.out,<- hmm];rfl
    have hwm : IntKind.i64.wrap (m : Int) = (m : Int) := IntWalk.i64_in _ (by omega)
    unfold encF at hrd
    generalize getF ws = f at *
    generalize readL f (m : Int) = q at *
    have HRDL := Lib.hid hrd
    have HMI := Lib.hid hmi
    clear hrd hfl hmm hq HQ
    by_cases hz : q.2 = 0
    ·have hz1 : (q.2 == 0) = true := by simp [hz]
     have HS2 : Hid (nameP fed line ats = .val q.1 l') := by rw [Hid,HQ2.out,if_pos hz]
     clear hz HQ2
     go_wp2_with fail
     refine (HRDL.out _).mono ?_
     rintro e w5 ⟨rfl,hb5⟩
     have HR5 := Lib.hid (HRU.out.below hb5)
     have HU5 := Lib.hid (HUB.out.trans ((UB.of_below hb5).mono hsz))
     clear hb5 hru
     go_wp2_with (go_at_call 37;refine (HM.out _ _).mono ?_;rintro e w' ⟨rfl,rfl⟩)
     go_ret
     exact ends_val HS2.out HR5.out HU5.out
    ·have hz1 : (q.2 == 0) = false := by rw [beq_eq_false_iff_ne];exact hz
     have HS2 : Hid (nameP fed line ats = .stop (.err 300) l') := by rw [Hid,HQ2.out,if_neg hz]
     clear hz HQ2
     go_wp2_with fail
     refine (HRDL.out _).mono ?_
     rintro e w5 ⟨rfl,hb5⟩
     have HR5 := Lib.hid (HRU.out.below hb5)
     have HU5 := Lib.hid (HUB.out.trans ((UB.of_below hb5).mono hsz))
     clear hb5 hru
     go_wp2_with (go_at_call 37;refine (HM.out _ _).mono ?_;rintro e w' ⟨rfl,rfl⟩)
     exact ⟨rfl,ends_err HS2.out HR5.out HU5.out⟩
end
section
open Go.RowKit
variable {R : Nat} {FA : Option Addr} {nf cf : Nat} {fed ats : List Nat}
def encW8 (l : List Nat) : Value := .agg #[wordsC l 0,wordsC l 1,wordsC l 2,wordsC l 3,wordsC l 4,wordsC l 5,wordsC l 6,wordsC l 7]
theorem loadsP_len (fed : List Nat) : ∀ (n p : Nat) (acc ats : List Nat) (ws l : List Nat),loadsP fed n p acc ats = .val ws l -> ws.length = acc.length + n
 | 0,p,acc,ats,ws,l,h => by cases h;rfl
 | n + 1,p,acc,ats,ws,l,h => by
  obtain ⟨x,l1,_,h2⟩ := bind_val h
  have := loadsP_len fed n (p + 1) (acc ++ [x]) l1 ws l h2
  rw [this,List.length_append]
  simp
  omega
set_option maxRecDepth 100000 in
set_option maxHeartbeats 4000000 in
theorem lpart_any (top k : Nat) (W : World) (htop : top <= 100000) (hk : k <= 100) (hl : ats.length <= nf) (hnf : nf <= 100000) (hx64 : ∀ x ∈ fed,x < 18446744073709551616) (h : RuAt R FA nf cf fed ats.length W) :
  Calls Tryz.prog 66 #[.pointer (some ⟨R,0,none⟩),.int .i64 top,.int .i64 k] W (ReadsU R FA nf cf fed W encW8 (partP fed top k ats)) := by
 have HE : Hid (partP fed top k ats = (loadP fed (top * 8 + (1 + k)) ats).bind fun x ats => (pointerP x ats).bind fun p ats => if p = 0 then .val (List.replicate 8 0) ats else loadsP fed 8 (p * 8) [] ats) := rfl
 have hat := fun W => lat_any top (1 + k) W (by omega)
 obtain ⟨p,hp⟩ : ∃ p,top * 8 + (1 + k) = p := ⟨_,rfl⟩
 rw [hp] at hat HE
 have hw1 : IntKind.i64.wrap (1 + (k : Int)) = 1 + (k : Int) := IntWalk.i64_in _ (by omega)
 rw [show ((1 + k : Nat) : Int) = 1 + (k : Int) from by omega] at hat
 have hpb : p < 9223372036854775808 := by omega
 have HAT0 := Lib.hid hat
 have HM := Lib.hid (fun b => lmust_any b 300)
 have HX := Lib.hid hx64
 have HFL := Lib.hid h.fedl
 obtain ⟨W0,hW0⟩ : ∃ W0,W.alloc (.cells #[.int .u64 0,.int .u64 0,.int .u64 0,.int .u64 0,.int .u64 0,.int .u64 0,.int .u64 0,.int .u64 0] 136) = W0 := ⟨_,rfl⟩
 have hb0 : Below W.heap.size W W0 := by rw [<- hW0];exact (Below.refl _ _).alloc (Nat.le_refl _) _
 have hs0 : W0.heap.size = W.heap.size + 1 := by rw [<- hW0];simp
 have HC0 : Hid (CellsAt W0 W.heap.size 8 (wordsC [])) := by
  rw [Hid,<- hW0]
  exact cellsAt_new _ _ _ _ _ fun i hi => match i,hi with | 0,_ => rfl | 1,_ => rfl | 2,_ => rfl | 3,_ => rfl | 4,_ => rfl | 5,_ => rfl | 6,_ => rfl | 7,_ => rfl
 have hoff := Lib.hid (h.off (Nat.le_refl W.heap.size))
 have hXR : W.heap.size ≠ R := hoff.out.1
 have HU0 : Hid (UB R W.heap.size W W0) := UB.of_below hb0
 have HL0 := Lib.hid (lload_any p { W0 with drawn := W0.drawn + 1 } hpb hl hnf (h.below hb0).drew')
 clear h hat hp hx64 hb0
 go_enter Tryz.func66,Tryz.ntmps66
 go_wp2_with fail
 refine wp_scope_fwd 1 ?_
 go_wp2_with go_step3
 refine box_tail 7 (by kernel_rfl) (by kernel_rfl) ?_
 simp only [List.take_succ_cons,List.take_zero,List.drop_succ_cons,List.drop_zero]
 iterate 6
  refine box_step (fun K hK => ?_)
  go_simp
  refine hK _ ?_
  clear hK K
 refine box_step (fun K hK => ?_)
 go_simp
 refine ⟨_,HAT0.out _,hK _ ?_⟩
 clear hK K
 refine ⟨wpStill_nil ?_⟩
 go_wp2_with fail
 refine reads_case HL0.out ?_ ?_
 ·intro o l w2 hr hb hu
  go_wp2_with go_step3
  exact ⟨rfl,ends_stop (by rw [HE.out,hr.out];rfl) hb.out (HU0.out.trans ((UB.drew' R W.heap.size W0).trans (hu.out.mono (by show W.heap.size <= W0.heap.size;omega))))⟩
 ·intro x l w2 hr hb hu
  have hx := HX.out x (loadP_val hr.out).2
  have hlen : l.length <= nf := by have := loadP_len hr.out;rw [HFL.out] at this;exact this
  have HS : Hid (partP fed top k ats = (pointerP x l).bind fun p ats => if p = 0 then .val (List.replicate 8 0) ats else loadsP fed 8 (p * 8) [] ats) := by rw [Hid,HE.out,hr.out];rfl
  have HU1 := Lib.hid (HU0.out.trans ((UB.drew' R W.heap.size W0).trans (hu.out.mono (by show W.heap.size <= W0.heap.size;omega))))
  have HC1 := Lib.hid (HC0.out.ub ((UB.drew' R W0.heap.size W0).trans hu.out) (by omega) hXR)
  have hs1 : W.heap.size < w2.heap.size := Nat.lt_of_lt_of_le (show W.heap.size < W0.heap.size by omega) hu.out.size
  clear hr hu HE HL0 HAT0 HC0
  go_wp2_with fail
  refine lpointer_case (l := l) hx ?_ ?_
  ·intro hq
   go_wp2_with go_step3
   exact ⟨rfl,ends_err (by rw [HS.out,hq.out];rfl) hb.out HU1.out⟩
  ·intro hq hx10
   have HS1 : Hid (partP fed top k ats = if x = 0 then .val (List.replicate 8 0) l else loadsP fed 8 (x * 8) [] l) := by rw [Hid,HS.out,hq.out];rfl
   have hx1 := hx10.out
   clear hq hx10 HS
   by_cases hx0 : x = 0
   ·subst hx0
    have HS2 : Hid (partP fed top k ats = .val (List.replicate 8 0) l) := by rw [Hid,HS1.out,if_pos rfl]
    obtain ⟨w4,hw4⟩ : ∃ w4,putTo w2 W.heap.size (wordsC []) 8 = w4 := ⟨_,rfl⟩
    have HC4 : Hid (CellsAt w4 W.heap.size 8 (wordsC [])) := by rw [Hid,<- hw4];exact putTo_all HC1.out
    have HR4 := Lib.hid ((hb.out.putTo (f := wordsC []) hoff.out 8))
    have HU4 := Lib.hid ((HU1.out.putTo (f := wordsC []) (Nat.le_refl W.heap.size) 8))
    rw [hw4] at HR4 HU4
    have c0 := HC1.out.1 0 (by omega)
    have y0 := HC1.out.2 0
    have c1 := HC1.out.1 1 (by omega)
    have y1 := HC1.out.2 1
    have c2 := HC1.out.1 2 (by omega)
    have y2 := HC1.out.2 2
    have c3 := HC1.out.1 3 (by omega)
    have y3 := HC1.out.2 3
    have c4 := HC1.out.1 4 (by omega)
    have y4 := HC1.out.2 4
    have c5 := HC1.out.1 5 (by omega)
    have y5 := HC1.out.2 5
    have c6 := HC1.out.1 6 (by omega)
    have y6 := HC1.out.2 6
    have c7 := HC1.out.1 7 (by omega)
    have y7 := HC1.out.2 7
    unfold wordsC at c0 c1 c2 c3 c4 c5 c6 c7
    unfold putTo putTo putTo putTo putTo putTo putTo putTo putTo wordsC at hw4
    go_wp2_with go_step3
    refine fwd_goto _ rfl ?_
    go_wp2_with go_step3
    have g0 := HC4.out.1 0 (by omega)
    have g1 := HC4.out.1 1 (by omega)
    have g2 := HC4.out.1 2 (by omega)
    have g3 := HC4.out.1 3 (by omega)
    have g4 := HC4.out.1 4 (by omega)
    have g5 := HC4.out.1 5 (by omega)
    have g6 := HC4.out.1 6 (by omega)
    have g7 := HC4.out.1 7 (by omega)
    refine bodyPost_ret (v := encW8 (List.replicate 8 0)) (by simp [results,Tryz.results66,go_sem,encW8,g0,g1,g2,g3,g4,g5,g6,g7];exact ⟨rfl,rfl,rfl,rfl,rfl,rfl,rfl,rfl⟩) rfl ?_
    exact ends_val HS2.out HR4.out HU4.out
   ·have HS2 : Hid (partP fed top k ats = loadsP fed 8 (x * 8) [] l) := by rw [Hid,HS1.out,if_neg hx0]
    have hne : ((x : Int) == 0) = false := by rw [beq_eq_false_iff_ne];omega
    clear HS1
    go_wp2_with go_step3
    go_loopw [20] (fun i wr => ∃ (j : Nat) (ws l' : List Nat),j <= 8 ∧ ws.length = j ∧ i = .int .i64 j ∧ l'.length <= nf ∧ RuAt R FA nf cf fed l'.length wr ∧ CellsAt wr W.heap.size 8 (wordsC ws) ∧ UB R W.heap.size W wr ∧ W.heap.size < wr.heap.size ∧ Hid (partP fed top k ats = loadsP fed (8 - j) (x * 8 + j) ws l')) (fun i _ => 8 - (intOf i).toNat)
    case atStart => exact ⟨0,[],l,by omega,rfl,rfl,hlen,hb.out,HC1.out,HU1.out,hs1,HS2.out⟩
    case round =>
     obtain ⟨j,ws,l',hj,hwl,rfl,hl',hru,hca,hub,hXs,hq⟩ := hrel
     have HWL := Lib.hid hwl
     have HRU := Lib.hid hru
     have HCA := Lib.hid hca
     have HUB := Lib.hid hub
     have hsz := hub.size
     clear hwl hca hub hb HC1 HU1 hs1
     by_cases hlt : j < 8
     ·have hat := fun W => lat_any x j W (by omega)
      have HQ : Hid (partP fed top k ats = (loadP fed (x * 8 + j) l').bind fun y ats => loadsP fed (8 - (j + 1)) (x * 8 + (j + 1)) (ws ++ [y]) ats) := by
       rw [Hid,hq.out,show 8 - j = (8 - (j + 1)) + 1 from by omega];rfl
      obtain ⟨q,hq'⟩ : ∃ q,x * 8 + j = q := ⟨_,rfl⟩
      rw [hq'] at hat HQ
      have hqb : q < 9223372036854775808 := by omega
      have HAT := Lib.hid hat
      have HL := Lib.hid (lload_any q { wr with drawn := wr.drawn + 1 } hqb hl' hnf hru.drew')
      have hj8 : (j : Int) < 8 := by omega
      clear hat hq' hq hru
      go_wp2_with go_step3
      go_region_with (first | (go_at_call 112;refine (HAT.out _).mono ?_;rintro e w9 ⟨rfl,rfl⟩) | (go_at_call 111;refine reads_case HL.out ?_ ?_;(intro o l2 w3 hr hb hu;exact ⟨rfl,ends_stop (by rw [HQ.out,hr.out];rfl) hb.out (HUB.out.trans ((UB.drew' R W.heap.size wr).trans (hu.out.mono hsz)))⟩);intro y l2 w3 hr hb hu;have hc3 := (hu.out.cell (b := W.heap.size) (off := j) hXs hXR).trans (HCA.out.1 j hlt);have hf3 := (hu.out.frozen (b := W.heap.size) (off := j) hXs hXR).trans (HCA.out.2 j)))
      have HL2 : Hid (l2.length <= nf) := by have := loadP_len hr.out;rw [HFL.out] at this;exact this
      have HQ2 : Hid (partP fed top k ats = loadsP fed (8 - (j + 1)) (x * 8 + (j + 1)) (ws ++ [y]) l2) := by rw [Hid,HQ.out,hr.out];rfl
      have HC3 : Hid (CellsAt (w3.setCell ⟨W.heap.size,j,none⟩ (.int .u64 y)) W.heap.size 8 (wordsC (ws ++ [y]))) := by
       have h0 : CellsAt w3 W.heap.size 8 (wordsC ws) := HCA.out.ub ((UB.drew' R wr.heap.size wr).trans hu.out) hXs hXR
       have h1 := h0.word (x := y) (by rw [HWL.out];exact hlt)
       rwa [HWL.out] at h1
      have HR3 := Lib.hid (hb.out.set (b := W.heap.size) (i := j) (v := .int .u64 y) hoff.out)
      have HU3 : Hid (UB R W.heap.size W (w3.setCell ⟨W.heap.size,j,none⟩ (.int .u64 y))) := (HUB.out.trans ((UB.drew' R W.heap.size wr).trans (hu.out.mono hsz))).set (.inl (Nat.le_refl _))
      have hXs3 : W.heap.size < (w3.setCell ⟨W.heap.size,j,none⟩ (.int .u64 y)).heap.size := by have := hu.out.size;simp [World.setCell] at *;omega
      clear hr hb hu hc3 hf3 HL HAT
      go_wp2_with go_step3
      go_roundw
      case rel => exact ⟨j + 1,ws ++ [y],l2,by omega,by rw [List.length_append,HWL.out];rfl,by go_num,HL2.out,HR3.out,HC3.out,HU3.out,hXs3,HQ2.out⟩
      case measure => simp [intOf];omega
     ·obtain rfl : j = 8 := by omega
      have HS3 : Hid (partP fed top k ats = .val ws l') := by rw [Hid,hq.out];rfl
      clear hq
      obtain ⟨w4,hw4⟩ : ∃ w4,putTo wr W.heap.size (wordsC ws) 8 = w4 := ⟨_,rfl⟩
      have HC4 : Hid (CellsAt w4 W.heap.size 8 (wordsC ws)) := by rw [Hid,<- hw4];exact putTo_all HCA.out
      have HR4 := Lib.hid ((HRU.out.putTo (f := wordsC ws) hoff.out 8))
      have HU4 := Lib.hid ((HUB.out.putTo (f := wordsC ws) (Nat.le_refl W.heap.size) 8))
      rw [hw4] at HR4 HU4
      have c0 := HCA.out.1 0 (by omega)
      have y0 := HCA.out.2 0
      have c1 := HCA.out.1 1 (by omega)
      have y1 := HCA.out.2 1
      have c2 := HCA.out.1 2 (by omega)
      have y2 := HCA.out.2 2
      have c3 := HCA.out.1 3 (by omega)
      have y3 := HCA.out.2 3
      have c4 := HCA.out.1 4 (by omega)
      have y4 := HCA.out.2 4
      have c5 := HCA.out.1 5 (by omega)
      have y5 := HCA.out.2 5
      have c6 := HCA.out.1 6 (by omega)
      have y6 := HCA.out.2 6
      have c7 := HCA.out.1 7 (by omega)
      have y7 := HCA.out.2 7
      unfold wordsC at c0 c1 c2 c3 c4 c5 c6 c7
      unfold putTo putTo putTo putTo putTo putTo putTo putTo putTo wordsC at hw4
      go_wp2_with go_step3
      have g0 := HC4.out.1 0 (by omega)
      have g1 := HC4.out.1 1 (by omega)
      have g2 := HC4.out.1 2 (by omega)
      have g3 := HC4.out.1 3 (by omega)
      have g4 := HC4.out.1 4 (by omega)
      have g5 := HC4.out.1 5 (by omega)
      have g6 := HC4.out.1 6 (by omega)
      have g7 := HC4.out.1 7 (by omega)
      refine bodyPost_ret (v := encW8 (ws)) (by simp [results,Tryz.results66,go_sem,encW8,g0,g1,g2,g3,g4,g5,g6,g7]) rfl ?_
      exact ends_val HS3.out HR4.out HU4.out
end
section
open Go.RowKit
def EPost {α : Type} (G : α -> List Nat -> World -> Prop) (Pn : Out -> List Nat -> World -> Prop) (r : Res α) (e : Ending) (W' : World) : Prop :=
 match r with
 | .val a l => e = .returned (.tuple #[]) ∧ G a l W'
 | .stop o l => e = .panicked [outU o] ∧ Pn o l W'
theorem epost_case {α : Type} {P : Program} {f : FuncId} {args : Array Value} {W : World} {G : α -> List Nat -> World -> Prop} {Pn : Out -> List Nat -> World -> Prop} {r : Res α} {Q : Ending -> World -> Prop} (h : Calls P f args W fun e W' => EPost G Pn r e W')
  (hs : ∀ (o : Out) (l : List Nat) (W' : World),Hid (r = .stop o l) -> Hid (Pn o l W') -> Q (.panicked [outU o]) W') (hv : ∀ (a : α) (l : List Nat) (W' : World),Hid (r = .val a l) -> Hid (G a l W') -> Q (.returned (.tuple #[])) W') : Calls P f args W Q := by
 refine h.mono ?_
 intro e W' hp
 cases r with
 | val a l => obtain ⟨rfl,h2⟩ := hp;exact hv a l W' rfl h2
 | stop o l => obtain ⟨rfl,h2⟩ := hp;exact hs o l W' rfl h2
def EntAt (R Rb Tb Eb top : Nat) (ev : Value) (W : World) : Prop := W.cell? ⟨Rb,0,none⟩ = some (.pointer (some ⟨R,0,none⟩)) ∧ W.cell? ⟨Tb,0,none⟩ = some (.int .i64 top) ∧ W.cell? ⟨Eb,0,none⟩ = some ev
variable {R : Nat} {FA : Option Addr} {nf cf : Nat} {fed ats : List Nat}
set_option maxRecDepth 100000 in
set_option maxHeartbeats 8000000 in
theorem entries_stat {α : Type} (f : Nat -> α -> List Nat -> List Nat -> Res α) (l Rb Tb Eb top : Nat) (G : α -> List Nat -> World -> Prop) (M : Nat -> α -> List Nat -> World -> Prop) (Pn : Out -> List Nat -> World -> Prop) (a : α) (W : World) (mu : α -> Nat) (hmu : ∀ line a1 l1 a2 l2,f line a1 fed l1 = .val a2 l2 -> mu a2 = mu a1 + 1)
  (htop : top <= 100000) (hnf : nf <= 20000) (hx64 : ∀ x ∈ fed,x < 18446744073709551616)
  (hG : ∀ a l W,G a l W -> RuAt R FA nf cf fed l.length W ∧ EntAt R Rb Tb Eb top (.func (.func 60) #[] #[]) W ∧ l.length <= nf)
  (hGk : ∀ a l l' W W',G a l W -> RuAt R FA nf cf fed l'.length W' -> UB R W.heap.size W W' -> l'.length <= nf -> G a l' W')
  (hGp : ∀ a l o l' W W',G a l W -> BehindU (α := Nat) R FA nf cf fed (.stop o l') W' -> UB R W.heap.size W W' -> Pn o l' W')
  (hY : ∀ many line a1 l1 W1,1 <= line -> line < 1024 -> mu a1 < mu a + 7168 -> G a1 l1 W1 -> Yields Tryz.prog l #[.int .i64 (many : Nat),.int .i64 (line : Nat)] W1 fun e W2 => e = .returned (.bool true) ∧ M line a1 l1 W2 ∧ W2.cell? ⟨Eb,0,none⟩ = some (.func (.func 60) #[] #[]))
  (hE : ∀ line a1 l1 W1,1 <= line -> line < 1024 -> mu a1 < mu a + 7168 -> M line a1 l1 W1 -> Calls Tryz.prog 60 #[.int .i64 (line : Nat)] W1 fun e W2 => EPost G Pn (f line a1 fed l1) e W2)
  (h0 : G a ats W) :
  Calls Tryz.prog 113 #[.func (.yield l) #[] #[],.pointer (some ⟨Rb,0,none⟩),.pointer (some ⟨Tb,0,none⟩),.pointer (some ⟨Eb,0,none⟩)] W fun e W' => EPost G Pn (bucketsE f fed top 7 0 a ats) e W' := by
 have HG := Lib.hid hG
 have HGK := Lib.hid hGk
 have HGP := Lib.hid hGp
 have HY := Lib.hid hY
 have HE := Lib.hid hE
 have HMU := Lib.hid hmu
 have HX := Lib.hid hx64
 have H0 := Lib.hid h0
 have HM := Lib.hid (fun b => lmust_any b 300)
 have HFL := Lib.hid (hG _ _ _ h0).1.fedl
 have HLN := Lib.hid (hG _ _ _ h0).2.2
 clear hG hGk hGp hY hE hmu hx64 h0
 refine (callsIn_wide (n := 10)).1 ?_
 refine callsIn_of_wp Tryz.func113 rfl trivial ?_ rfl
 simp only [Tryz.ntmps113,List.size_toArray,List.length_cons,List.length_nil,Nat.reduceAdd,Nat.reduceSub,Array.replicate_succ,Array.replicate_zero,List.push_toArray,List.append_toArray,List.nil_append,List.cons_append]
 gi_wp2
 gi_loopw [8] (fun i wr => ∃ (b : Nat) (a' : α) (l' : List Nat),b <= 7 ∧ i = .int .i64 b ∧ mu a' <= mu a + 1024 * b ∧ Hid (G a' l' wr) ∧ Hid (bucketsE f fed top 7 0 a ats = bucketsE f fed top (7 - b) b a' l')) (fun i _ => 7 - (intOf i).toNat)
 case atStart => exact ⟨0,a,ats,by omega,rfl,by omega,H0.out,rfl⟩
 case round =>
  obtain ⟨b,a1,l1,hb7,rfl,hmb,hg,hq⟩ := hrel
  have HMB := Lib.hid hmb
  clear hmb
  by_cases hlt : b < 7
  ·have HQ : Hid (bucketsE f fed top 7 0 a ats = (loadP fed (top * 8 + b) l1).bind fun x ats => (pointerP x ats).bind fun line ats => (chainE f fed 1024 line a1 ats).bind fun a ats => bucketsE f fed top (7 - (b + 1)) (b + 1) a ats) := by
    rw [Hid,hq.out,show 7 - b = (7 - (b + 1)) + 1 from by omega];rfl
   have hat := fun W => lat_any top b W (by omega)
   obtain ⟨q,hq'⟩ : ∃ q,top * 8 + b = q := ⟨_,rfl⟩
   rw [hq'] at hat HQ
   have hqb : q < 9223372036854775808 := by omega
   have HAT := Lib.hid hat
   obtain ⟨hru,⟨hrb,htb,heb⟩,hln⟩ := HG.out _ _ _ hg.out
   have HL := Lib.hid (lload_any q { wr with drawn := wr.drawn + 1 } hqb hln (by omega) hru.drew')
   have hbi : (b : Int) < 7 := by omega
   clear hat hq' hq hru
   gi_wp2
   refine wpIn_wide.2 ?_
   refine box_tail 6 (by kernel_rfl) (by kernel_rfl) ?_
   simp only [List.take_succ_cons,List.take_zero,List.drop_succ_cons,List.drop_zero]
   iterate 5
    refine box_step (fun K hK => ?_)
    go_simp
    refine hK _ ?_
    clear hK K
   refine box_step (fun K hK => ?_)
   go_simp
   refine ⟨_,HAT.out _,hK _ ?_⟩
   clear hK K
   refine ⟨wpStill_nil ?_⟩
   go_wp2_with fail
   refine reads_case HL.out ?_ ?_
   ·intro o l2 w2 hr hb hu
    go_wp2_with fail
    have e : bucketsE f fed top 7 0 a ats = .stop o l2 := by rw [HQ.out,hr.out];rfl
    rw [e]
    exact ⟨rfl,rfl,HGP.out _ _ _ _ _ _ hg.out hb.out ((UB.drew' R wr.heap.size wr).trans hu.out)⟩
   ·intro x l2 w2 hr hb hu
    have hx := HX.out x (loadP_val hr.out).2
    have hlen : l2.length <= nf := by have := loadP_len hr.out;rw [HFL.out] at this;exact this
    have HQ1 : Hid (bucketsE f fed top 7 0 a ats = (pointerP x l2).bind fun line ats => (chainE f fed 1024 line a1 ats).bind fun a ats => bucketsE f fed top (7 - (b + 1)) (b + 1) a ats) := by rw [Hid,HQ.out,hr.out];rfl
    have HG2 := Lib.hid (HGK.out _ _ _ _ _ hg.out hb.out ((UB.drew' R wr.heap.size wr).trans hu.out) hlen)
    have HR2 := hb
    clear hr hu HQ HL HAT hg hrb htb heb
    go_wp2_with fail
    refine lpointer_case (l := l2) hx ?_ ?_
    ·intro hp
     go_wp2_with fail
     have e : bucketsE f fed top 7 0 a ats = .stop (.err 300) l2 := by rw [HQ1.out,hp.out];rfl
     rw [e]
     exact ⟨rfl,rfl,HGP.out _ _ _ _ _ _ HG2.out HR2.out (UB.refl _ _ _)⟩
    ·intro hp hx10
     have HQ2 : Hid (bucketsE f fed top 7 0 a ats = (chainE f fed 1024 x a1 l2).bind fun a ats => bucketsE f fed top (7 - (b + 1)) (b + 1) a ats) := by rw [Hid,HQ1.out,hp.out];rfl
     have hx1 := hx10.out
     clear hp hx10 HQ1 hb HR2
     go_wp2_with fail
     gi_wp2
     gi_loopw [6,7] (fun many line wr => ∃ (m ln : Nat) (a' : α) (l' : List Nat),m <= 1024 ∧ many = .int .i64 m ∧ line = .int .i64 ln ∧ ln < 1024 ∧ Hid (mu a' <= mu a + 1024 * b + m) ∧ Hid (G a' l' wr) ∧ Hid (bucketsE f fed top 7 0 a ats = (chainE f fed (1024 - m) ln a' l').bind fun a ats => bucketsE f fed top (7 - (b + 1)) (b + 1) a ats)) (fun many _ _ => 1025 - (intOf many).toNat)
     case atStart => exact ⟨0,x,a1,l2,by omega,rfl,rfl,hx1,by have := HMB.out;rw [Hid];omega,HG2.out,HQ2.out⟩
     case round =>
      obtain ⟨m,ln,a3,l3,hm,rfl,rfl,hln1,hm3',hg3,hq3⟩ := hrel
      clear HG2 HQ2
      by_cases hz : ln = 0
      ·subst hz
       have HQ3 : Hid (bucketsE f fed top 7 0 a ats = bucketsE f fed top (7 - (b + 1)) (b + 1) a3 l3) := by
        rw [Hid,hq3.out]
        cases 1024 - m <;> simp [chainE,Res.bind]
       clear hq3
       gi_wp2
       go_roundw
       case rel => exact ⟨b + 1,a3,l3,by omega,by go_num,by have := hm3'.out;omega,hg3,HQ3.out⟩
       case measure => simp [intOf];omega
      ·have hne : ((ln : Int) != 0) = true := by rw [bne_iff_ne];omega
       by_cases hm2 : m = 1024
       ·subst hm2
        have HQ3 : Hid (bucketsE f fed top 7 0 a ats = .stop (.err 300) l3) := by
         rw [Hid,hq3.out,Nat.sub_self,chainE,if_neg hz];rfl
        have hru3 := (HG.out _ _ _ hg3.out).1
        have hm3 : decide ((1024 : Int) < 1024) = false := by decide
        gi_wp2_with (refine And.intro trivial ?_;gi_at_call 37;refine callsIn_wide.2 ((HM.out _ _).mono ?_);rintro e w3 ⟨rfl,rfl⟩)
        rw [HQ3.out]
        exact ⟨rfl,rfl,HGP.out _ _ _ _ _ _ hg3.out hru3 (UB.refl _ _ _)⟩
       ·obtain ⟨k,hk⟩ : ∃ k,1024 - m = k + 1 := ⟨1023 - m,by omega⟩
        have hk2 : 1024 - (m + 1) = k := by omega
        have HQ3 : Hid (bucketsE f fed top 7 0 a ats = ((f ln a3 fed l3).bind fun a ats => (loadP fed (ln * 8 + 0) ats).bind fun x ats => (pointerP x ats).bind fun next ats => chainE f fed k next a ats).bind fun a ats => bucketsE f fed top (7 - (b + 1)) (b + 1) a ats) := by
         rw [Hid,hq3.out,hk,chainE,if_neg hz]
        have hmi : (m : Int) < 1024 := by omega
        have hmlt : Hid (mu a3 < mu a + 7168) := by have := hm3'.out;rw [Hid];omega
        have hyy := HY.out (m + 1) ln a3 l3 wr (by omega) hln1 hmlt.out hg3.out
        obtain ⟨fn,tmps,assign,body,hy,hR⟩ := hyy
        rw [show ((m + 1 : Nat) : Int) = (m : Int) + 1 from by omega] at hy
        clear hq3 hg3
        gi_wp2_with (refine And.intro trivial ?_;gi_at_call 37;refine callsIn_wide.2 ((HM.out _ _).mono ?_);rintro e w3 ⟨rfl,rfl⟩)
        refine (hR _).mono ?_
        rintro e W3 ⟨rfl,hm3,heb3⟩
        have HE3 := Lib.hid (HE.out ln a3 l3 W3 (by omega) hln1 hmlt.out hm3)
        clear hm3 hR hy
        gi_wp2
        refine ⟨trivial,callsIn_wide.2 (epost_case HE3.out ?_ ?_)⟩
        ·intro o l4 w4 hr hp
         gi_wp2
         have e : bucketsE f fed top 7 0 a ats = .stop o l4 := by rw [HQ3.out,hr.out];rfl
         rw [e]
         exact ⟨rfl,rfl,hp.out⟩
        ·intro a4 l4 w4 hr hg4
         have hm4 := Lib.hid (HMU.out _ _ _ _ _ hr.out)
         have HQ4 : Hid (bucketsE f fed top 7 0 a ats = ((loadP fed (ln * 8 + 0) l4).bind fun x ats => (pointerP x ats).bind fun next ats => chainE f fed k next a4 ats).bind fun a ats => bucketsE f fed top (7 - (b + 1)) (b + 1) a ats) := by rw [Hid,HQ3.out,hr.out];rfl
         have hat := fun W => lat_any ln 0 W (by omega)
         obtain ⟨q4,hq4'⟩ : ∃ q,ln * 8 + 0 = q := ⟨_,rfl⟩
         rw [hq4'] at hat HQ4
         have hqb4 : q4 < 9223372036854775808 := by omega
         have HAT4 := Lib.hid hat
         obtain ⟨hru4,⟨hrb4,htb4,heb4⟩,hln4⟩ := HG.out _ _ _ hg4.out
         have HL4 := Lib.hid (lload_any q4 { w4 with drawn := w4.drawn + 1 } hqb4 hln4 (by omega) hru4.drew')
         clear hat hq4' hru4 hr HQ3 HE3 heb3
         gi_wp2
         refine wpIn_wide.2 ?_
         refine box_tail 5 (by kernel_rfl) (by kernel_rfl) ?_
         simp only [List.take_succ_cons,List.take_zero,List.drop_succ_cons,List.drop_zero]
         iterate 4
          refine box_step (fun K hK => ?_)
          go_simp
          refine hK _ ?_
          clear hK K
         refine box_step (fun K hK => ?_)
         go_simp
         refine ⟨_,HAT4.out _,hK _ ?_⟩
         clear hK K
         refine ⟨wpStill_nil ?_⟩
         go_wp2_with fail
         refine reads_case HL4.out ?_ ?_
         ·intro o l5 w5 hr hb hu
          go_wp2_with fail
          have e : bucketsE f fed top 7 0 a ats = .stop o l5 := by rw [HQ4.out,hr.out];rfl
          rw [e]
          exact ⟨rfl,rfl,HGP.out _ _ _ _ _ _ hg4.out hb.out ((UB.drew' R w4.heap.size w4).trans hu.out)⟩
         ·intro x5 l5 w5 hr hb hu
          have hx5 := HX.out x5 (loadP_val hr.out).2
          have hlen5 : l5.length <= nf := by have := loadP_len hr.out;rw [HFL.out] at this;exact this
          have HQ5 : Hid (bucketsE f fed top 7 0 a ats = ((pointerP x5 l5).bind fun next ats => chainE f fed k next a4 ats).bind fun a ats => bucketsE f fed top (7 - (b + 1)) (b + 1) a ats) := by rw [Hid,HQ4.out,hr.out];rfl
          have HG5 := Lib.hid (HGK.out _ _ _ _ _ hg4.out hb.out ((UB.drew' R w4.heap.size w4).trans hu.out) hlen5)
          have HR5 := hb
          clear hr hu HQ4 HL4 HAT4 hg4 hrb4 htb4 heb4
          go_wp2_with fail
          refine lpointer_case (l := l5) hx5 ?_ ?_
          ·intro hp
           go_wp2_with fail
           have e : bucketsE f fed top 7 0 a ats = .stop (.err 300) l5 := by rw [HQ5.out,hp.out];rfl
           rw [e]
           exact ⟨rfl,rfl,HGP.out _ _ _ _ _ _ HG5.out HR5.out (UB.refl _ _ _)⟩
          ·intro hp hx10
           have HQ6 : Hid (bucketsE f fed top 7 0 a ats = (chainE f fed (1024 - (m + 1)) x5 a4 l5).bind fun a ats => bucketsE f fed top (7 - (b + 1)) (b + 1) a ats) := by rw [Hid,HQ5.out,hp.out,hk2];rfl
           have hx6 := hx10.out
           clear hp hx10 HQ5 hb HR5
           go_wp2_with fail
           gi_wp2
           go_roundw
           case rel => exact ⟨m + 1,x5,a4,l5,by omega,by go_num,rfl,hx6,by have := hm3'.out;have := hm4.out;rw [Hid];omega,HG5.out,HQ6.out⟩
           case measure => simp [intOf];omega
  ·obtain rfl : b = 7 := by omega
   have HQ : Hid (bucketsE f fed top 7 0 a ats = .val a1 l1) := by rw [Hid,hq.out];rfl
   clear hq
   gi_wp2
   go_end0
   rw [HQ.out]
   exact ⟨rfl,hg.out⟩
set_option maxRecDepth 100000 in
set_option maxHeartbeats 8000000 in
theorem entries_list {α : Type} (f : Nat -> α -> List Nat -> List Nat -> Res α) (l Rb Tb Eb top : Nat) (Ab Cb : Nat) (G : α -> List Nat -> World -> Prop) (M : Nat -> α -> List Nat -> World -> Prop) (Pn : Out -> List Nat -> World -> Prop) (a : α) (W : World) (mu : α -> Nat) (hmu : ∀ line a1 l1 a2 l2,f line a1 fed l1 = .val a2 l2 -> mu a2 = mu a1 + 1)
  (htop : top <= 100000) (hnf : nf <= 20000) (hx64 : ∀ x ∈ fed,x < 18446744073709551616)
  (hG : ∀ a l W,G a l W -> RuAt R FA nf cf fed l.length W ∧ EntAt R Rb Tb Eb top (.func (.func 61) #[] #[.pointer (some ⟨Ab,0,none⟩),.pointer (some ⟨Cb,0,none⟩)]) W ∧ l.length <= nf)
  (hGk : ∀ a l l' W W',G a l W -> RuAt R FA nf cf fed l'.length W' -> UB R W.heap.size W W' -> l'.length <= nf -> G a l' W')
  (hGp : ∀ a l o l' W W',G a l W -> BehindU (α := Nat) R FA nf cf fed (.stop o l') W' -> UB R W.heap.size W W' -> Pn o l' W')
  (hY : ∀ many line a1 l1 W1,1 <= line -> line < 1024 -> mu a1 < mu a + 7168 -> G a1 l1 W1 -> Yields Tryz.prog l #[.int .i64 (many : Nat),.int .i64 (line : Nat)] W1 fun e W2 => e = .returned (.bool true) ∧ M line a1 l1 W2 ∧ W2.cell? ⟨Eb,0,none⟩ = some (.func (.func 61) #[] #[.pointer (some ⟨Ab,0,none⟩),.pointer (some ⟨Cb,0,none⟩)]))
  (hE : ∀ line a1 l1 W1,1 <= line -> line < 1024 -> mu a1 < mu a + 7168 -> M line a1 l1 W1 -> Calls Tryz.prog 61 #[.int .i64 (line : Nat),.pointer (some ⟨Ab,0,none⟩),.pointer (some ⟨Cb,0,none⟩)] W1 fun e W2 => EPost G Pn (f line a1 fed l1) e W2)
  (h0 : G a ats W) :
  Calls Tryz.prog 113 #[.func (.yield l) #[] #[],.pointer (some ⟨Rb,0,none⟩),.pointer (some ⟨Tb,0,none⟩),.pointer (some ⟨Eb,0,none⟩)] W fun e W' => EPost G Pn (bucketsE f fed top 7 0 a ats) e W' := by
 have HG := Lib.hid hG
 have HGK := Lib.hid hGk
 have HGP := Lib.hid hGp
 have HY := Lib.hid hY
 have HE := Lib.hid hE
 have HMU := Lib.hid hmu
 have HX := Lib.hid hx64
 have H0 := Lib.hid h0
 have HM := Lib.hid (fun b => lmust_any b 300)
 have HFL := Lib.hid (hG _ _ _ h0).1.fedl
 have HLN := Lib.hid (hG _ _ _ h0).2.2
 clear hG hGk hGp hY hE hmu hx64 h0
 refine (callsIn_wide (n := 10)).1 ?_
 refine callsIn_of_wp Tryz.func113 rfl trivial ?_ rfl
 simp only [Tryz.ntmps113,List.size_toArray,List.length_cons,List.length_nil,Nat.reduceAdd,Nat.reduceSub,Array.replicate_succ,Array.replicate_zero,List.push_toArray,List.append_toArray,List.nil_append,List.cons_append]
 gi_wp2
 gi_loopw [8] (fun i wr => ∃ (b : Nat) (a' : α) (l' : List Nat),b <= 7 ∧ i = .int .i64 b ∧ mu a' <= mu a + 1024 * b ∧ Hid (G a' l' wr) ∧ Hid (bucketsE f fed top 7 0 a ats = bucketsE f fed top (7 - b) b a' l')) (fun i _ => 7 - (intOf i).toNat)
 case atStart => exact ⟨0,a,ats,by omega,rfl,by omega,H0.out,rfl⟩
 case round =>
  obtain ⟨b,a1,l1,hb7,rfl,hmb,hg,hq⟩ := hrel
  have HMB := Lib.hid hmb
  clear hmb
  by_cases hlt : b < 7
  ·have HQ : Hid (bucketsE f fed top 7 0 a ats = (loadP fed (top * 8 + b) l1).bind fun x ats => (pointerP x ats).bind fun line ats => (chainE f fed 1024 line a1 ats).bind fun a ats => bucketsE f fed top (7 - (b + 1)) (b + 1) a ats) := by
    rw [Hid,hq.out,show 7 - b = (7 - (b + 1)) + 1 from by omega];rfl
   have hat := fun W => lat_any top b W (by omega)
   obtain ⟨q,hq'⟩ : ∃ q,top * 8 + b = q := ⟨_,rfl⟩
   rw [hq'] at hat HQ
   have hqb : q < 9223372036854775808 := by omega
   have HAT := Lib.hid hat
   obtain ⟨hru,⟨hrb,htb,heb⟩,hln⟩ := HG.out _ _ _ hg.out
   have HL := Lib.hid (lload_any q { wr with drawn := wr.drawn + 1 } hqb hln (by omega) hru.drew')
   have hbi : (b : Int) < 7 := by omega
   clear hat hq' hq hru
   gi_wp2
   refine wpIn_wide.2 ?_
   refine box_tail 6 (by kernel_rfl) (by kernel_rfl) ?_
   simp only [List.take_succ_cons,List.take_zero,List.drop_succ_cons,List.drop_zero]
   iterate 5
    refine box_step (fun K hK => ?_)
    go_simp
    refine hK _ ?_
    clear hK K
   refine box_step (fun K hK => ?_)
   go_simp
   refine ⟨_,HAT.out _,hK _ ?_⟩
   clear hK K
   refine ⟨wpStill_nil ?_⟩
   go_wp2_with fail
   refine reads_case HL.out ?_ ?_
   ·intro o l2 w2 hr hb hu
    go_wp2_with fail
    have e : bucketsE f fed top 7 0 a ats = .stop o l2 := by rw [HQ.out,hr.out];rfl
    rw [e]
    exact ⟨rfl,rfl,HGP.out _ _ _ _ _ _ hg.out hb.out ((UB.drew' R wr.heap.size wr).trans hu.out)⟩
   ·intro x l2 w2 hr hb hu
    have hx := HX.out x (loadP_val hr.out).2
    have hlen : l2.length <= nf := by have := loadP_len hr.out;rw [HFL.out] at this;exact this
    have HQ1 : Hid (bucketsE f fed top 7 0 a ats = (pointerP x l2).bind fun line ats => (chainE f fed 1024 line a1 ats).bind fun a ats => bucketsE f fed top (7 - (b + 1)) (b + 1) a ats) := by rw [Hid,HQ.out,hr.out];rfl
    have HG2 := Lib.hid (HGK.out _ _ _ _ _ hg.out hb.out ((UB.drew' R wr.heap.size wr).trans hu.out) hlen)
    have HR2 := hb
    clear hr hu HQ HL HAT hg hrb htb heb
    go_wp2_with fail
    refine lpointer_case (l := l2) hx ?_ ?_
    ·intro hp
     go_wp2_with fail
     have e : bucketsE f fed top 7 0 a ats = .stop (.err 300) l2 := by rw [HQ1.out,hp.out];rfl
     rw [e]
     exact ⟨rfl,rfl,HGP.out _ _ _ _ _ _ HG2.out HR2.out (UB.refl _ _ _)⟩
    ·intro hp hx10
     have HQ2 : Hid (bucketsE f fed top 7 0 a ats = (chainE f fed 1024 x a1 l2).bind fun a ats => bucketsE f fed top (7 - (b + 1)) (b + 1) a ats) := by rw [Hid,HQ1.out,hp.out];rfl
     have hx1 := hx10.out
     clear hp hx10 HQ1 hb HR2
     go_wp2_with fail
     gi_wp2
     gi_loopw [6,7] (fun many line wr => ∃ (m ln : Nat) (a' : α) (l' : List Nat),m <= 1024 ∧ many = .int .i64 m ∧ line = .int .i64 ln ∧ ln < 1024 ∧ Hid (mu a' <= mu a + 1024 * b + m) ∧ Hid (G a' l' wr) ∧ Hid (bucketsE f fed top 7 0 a ats = (chainE f fed (1024 - m) ln a' l').bind fun a ats => bucketsE f fed top (7 - (b + 1)) (b + 1) a ats)) (fun many _ _ => 1025 - (intOf many).toNat)
     case atStart => exact ⟨0,x,a1,l2,by omega,rfl,rfl,hx1,by have := HMB.out;rw [Hid];omega,HG2.out,HQ2.out⟩
     case round =>
      obtain ⟨m,ln,a3,l3,hm,rfl,rfl,hln1,hm3',hg3,hq3⟩ := hrel
      clear HG2 HQ2
      by_cases hz : ln = 0
      ·subst hz
       have HQ3 : Hid (bucketsE f fed top 7 0 a ats = bucketsE f fed top (7 - (b + 1)) (b + 1) a3 l3) := by
        rw [Hid,hq3.out]
        cases 1024 - m <;> simp [chainE,Res.bind]
       clear hq3
       gi_wp2
       go_roundw
       case rel => exact ⟨b + 1,a3,l3,by omega,by go_num,by have := hm3'.out;omega,hg3,HQ3.out⟩
       case measure => simp [intOf];omega
      ·have hne : ((ln : Int) != 0) = true := by rw [bne_iff_ne];omega
       by_cases hm2 : m = 1024
       ·subst hm2
        have HQ3 : Hid (bucketsE f fed top 7 0 a ats = .stop (.err 300) l3) := by
         rw [Hid,hq3.out,Nat.sub_self,chainE,if_neg hz];rfl
        have hru3 := (HG.out _ _ _ hg3.out).1
        have hm3 : decide ((1024 : Int) < 1024) = false := by decide
        gi_wp2_with (refine And.intro trivial ?_;gi_at_call 37;refine callsIn_wide.2 ((HM.out _ _).mono ?_);rintro e w3 ⟨rfl,rfl⟩)
        rw [HQ3.out]
        exact ⟨rfl,rfl,HGP.out _ _ _ _ _ _ hg3.out hru3 (UB.refl _ _ _)⟩
       ·obtain ⟨k,hk⟩ : ∃ k,1024 - m = k + 1 := ⟨1023 - m,by omega⟩
        have hk2 : 1024 - (m + 1) = k := by omega
        have HQ3 : Hid (bucketsE f fed top 7 0 a ats = ((f ln a3 fed l3).bind fun a ats => (loadP fed (ln * 8 + 0) ats).bind fun x ats => (pointerP x ats).bind fun next ats => chainE f fed k next a ats).bind fun a ats => bucketsE f fed top (7 - (b + 1)) (b + 1) a ats) := by
         rw [Hid,hq3.out,hk,chainE,if_neg hz]
        have hmi : (m : Int) < 1024 := by omega
        have hmlt : Hid (mu a3 < mu a + 7168) := by have := hm3'.out;rw [Hid];omega
        have hyy := HY.out (m + 1) ln a3 l3 wr (by omega) hln1 hmlt.out hg3.out
        obtain ⟨fn,tmps,assign,body,hy,hR⟩ := hyy
        rw [show ((m + 1 : Nat) : Int) = (m : Int) + 1 from by omega] at hy
        clear hq3 hg3
        gi_wp2_with (refine And.intro trivial ?_;gi_at_call 37;refine callsIn_wide.2 ((HM.out _ _).mono ?_);rintro e w3 ⟨rfl,rfl⟩)
        refine (hR _).mono ?_
        rintro e W3 ⟨rfl,hm3,heb3⟩
        have HE3 := Lib.hid (HE.out ln a3 l3 W3 (by omega) hln1 hmlt.out hm3)
        clear hm3 hR hy
        gi_wp2
        refine ⟨trivial,callsIn_wide.2 (epost_case HE3.out ?_ ?_)⟩
        ·intro o l4 w4 hr hp
         gi_wp2
         have e : bucketsE f fed top 7 0 a ats = .stop o l4 := by rw [HQ3.out,hr.out];rfl
         rw [e]
         exact ⟨rfl,rfl,hp.out⟩
        ·intro a4 l4 w4 hr hg4
         have hm4 := Lib.hid (HMU.out _ _ _ _ _ hr.out)
         have HQ4 : Hid (bucketsE f fed top 7 0 a ats = ((loadP fed (ln * 8 + 0) l4).bind fun x ats => (pointerP x ats).bind fun next ats => chainE f fed k next a4 ats).bind fun a ats => bucketsE f fed top (7 - (b + 1)) (b + 1) a ats) := by rw [Hid,HQ3.out,hr.out];rfl
         have hat := fun W => lat_any ln 0 W (by omega)
         obtain ⟨q4,hq4'⟩ : ∃ q,ln * 8 + 0 = q := ⟨_,rfl⟩
         rw [hq4'] at hat HQ4
         have hqb4 : q4 < 9223372036854775808 := by omega
         have HAT4 := Lib.hid hat
         obtain ⟨hru4,⟨hrb4,htb4,heb4⟩,hln4⟩ := HG.out _ _ _ hg4.out
         have HL4 := Lib.hid (lload_any q4 { w4 with drawn := w4.drawn + 1 } hqb4 hln4 (by omega) hru4.drew')
         clear hat hq4' hru4 hr HQ3 HE3 heb3
         gi_wp2
         refine wpIn_wide.2 ?_
         refine box_tail 5 (by kernel_rfl) (by kernel_rfl) ?_
         simp only [List.take_succ_cons,List.take_zero,List.drop_succ_cons,List.drop_zero]
         iterate 4
          refine box_step (fun K hK => ?_)
          go_simp
          refine hK _ ?_
          clear hK K
         refine box_step (fun K hK => ?_)
         go_simp
         refine ⟨_,HAT4.out _,hK _ ?_⟩
         clear hK K
         refine ⟨wpStill_nil ?_⟩
         go_wp2_with fail
         refine reads_case HL4.out ?_ ?_
         ·intro o l5 w5 hr hb hu
          go_wp2_with fail
          have e : bucketsE f fed top 7 0 a ats = .stop o l5 := by rw [HQ4.out,hr.out];rfl
          rw [e]
          exact ⟨rfl,rfl,HGP.out _ _ _ _ _ _ hg4.out hb.out ((UB.drew' R w4.heap.size w4).trans hu.out)⟩
         ·intro x5 l5 w5 hr hb hu
          have hx5 := HX.out x5 (loadP_val hr.out).2
          have hlen5 : l5.length <= nf := by have := loadP_len hr.out;rw [HFL.out] at this;exact this
          have HQ5 : Hid (bucketsE f fed top 7 0 a ats = ((pointerP x5 l5).bind fun next ats => chainE f fed k next a4 ats).bind fun a ats => bucketsE f fed top (7 - (b + 1)) (b + 1) a ats) := by rw [Hid,HQ4.out,hr.out];rfl
          have HG5 := Lib.hid (HGK.out _ _ _ _ _ hg4.out hb.out ((UB.drew' R w4.heap.size w4).trans hu.out) hlen5)
          have HR5 := hb
          clear hr hu HQ4 HL4 HAT4 hg4 hrb4 htb4 heb4
          go_wp2_with fail
          refine lpointer_case (l := l5) hx5 ?_ ?_
          ·intro hp
           go_wp2_with fail
           have e : bucketsE f fed top 7 0 a ats = .stop (.err 300) l5 := by rw [HQ5.out,hp.out];rfl
           rw [e]
           exact ⟨rfl,rfl,HGP.out _ _ _ _ _ _ HG5.out HR5.out (UB.refl _ _ _)⟩
          ·intro hp hx10
           have HQ6 : Hid (bucketsE f fed top 7 0 a ats = (chainE f fed (1024 - (m + 1)) x5 a4 l5).bind fun a ats => bucketsE f fed top (7 - (b + 1)) (b + 1) a ats) := by rw [Hid,HQ5.out,hp.out,hk2];rfl
           have hx6 := hx10.out
           clear hp hx10 HQ5 hb HR5
           go_wp2_with fail
           gi_wp2
           go_roundw
           case rel => exact ⟨m + 1,x5,a4,l5,by omega,by go_num,rfl,hx6,by have := hm3'.out;have := hm4.out;rw [Hid];omega,HG5.out,HQ6.out⟩
           case measure => simp [intOf];omega
  ·obtain rfl : b = 7 := by omega
   have HQ : Hid (bucketsE f fed top 7 0 a ats = .val a1 l1) := by rw [Hid,hq.out];rfl
   clear hq
   gi_wp2
   go_end0
   rw [HQ.out]
   exact ⟨rfl,hg.out⟩
end
section
open Go.RowKit
def bytesL (xs : List Nat) : List UInt8 := xs.flatMap byte8
theorem bytesL_length : ∀ xs : List Nat,(bytesL xs).length = 8 * xs.length
 | [] => rfl
 | x :: xs => by
  have := bytesL_length xs
  unfold bytesL at this ⊢
  rw [List.flatMap_cons,List.length_append,byte8_length,this,List.length_cons];omega
theorem bytesL_take (xs : List Nat) (k x : Nat) (h : xs[k]? = some x) : bytesL (xs.take (k + 1)) = bytesL (xs.take k) ++ byte8 x := by
 rw [List.take_add_one,h]
 simp [bytesL]
set_option maxRecDepth 100000 in
set_option maxHeartbeats 4000000 in
theorem bytes64_any (xs : List Nat) (hx : xs.length = 8) (hx64 : ∀ x ∈ xs,x < 18446744073709551616) (b off c : Nat) (w : World) (hc : ∀ k x : Nat,xs[k]? = some x -> w.cell? ⟨b,off + k,none⟩ = some (.int .u64 (x : Nat))) :
  Calls Tryz.prog 121 #[.slice (some ⟨b,off,none⟩) 8 c,.int .i64 64] w fun e w' => ∃ g cc,e = .returned (.tuple #[.slice (some ⟨g,0,none⟩) 64 cc,.int .i64 0]) ∧ cc = 64 ∧ w.heap.size <= g ∧ RowAt w' (some ⟨g,0,none⟩) ((bytesL xs).map encB) ∧ Below w.heap.size w w' := by
 obtain ⟨i0,hi,hz0,hz1,hz2⟩ := info_parts Tryz.infoU8
 have hbw : b < w.heap.size := World.block_lt_of_cell? w ⟨b,off,none⟩ (hc 0 (xs[0]'(by omega)) (List.getElem?_eq_getElem (by omega)))
 have HC := Lib.hid hc
 have HX := Lib.hid hx64
 clear hc hx64
 go_enter Tryz.func121,Tryz.ntmps121
 go_wp2_with fail
 apply wp_scope_straight
 go_wp2_with go_step3
 go_loopw [4,32] (fun v i wr => ∃ k : Nat,k <= 8 ∧ i = .int .i64 k ∧ wr.ownsRow w.heap.size 5 1 v (8 * k) ((bytesL (xs.take k)).map encB) ∧ Below w.heap.size w wr) (fun _ i _ => 8 - (intOf i).toNat)
 case atStart => exact ⟨0,Nat.zero_le _,rfl,World.ownsRow_nil _ _ _ _,Below.refl _ _⟩
 case round =>
  obtain ⟨k,hk,rfl,hown,hb⟩ := hrel
  by_cases hlt : k < 8
  ·obtain ⟨x,hx1⟩ : ∃ x,xs[k]? = some x := ⟨_,List.getElem?_eq_getElem (by omega)⟩
   have hcx : wr.cell? ⟨b,off + k,none⟩ = some (.int .u64 x) := (hb.cell (p := ⟨b,off + k,none⟩) hbw).trans (HC.out k x hx1)
   have HTK := Lib.hid (bytesL_take xs k x hx1)
   have HLT := Lib.hid hown.lt
   have HOWN := Lib.hid hown
   have HB := Lib.hid hb
   have hkd : decide ((k : Int) < 8) = true := decide_eq_true (by omega)
   have hx8 : x < 18446744073709551616 := HX.out x (List.mem_of_getElem? hx1)
   have HL0 : Hid ((bytesL (xs.take k)).length = 8 * k) := by rw [Hid,bytesL_length,List.length_take];omega
   have hbs := hb.size
   clear hown hb
   go_wp2_with fail
   go_loopw [4,36] (fun v i w2 => ∃ j : Nat,j <= 8 ∧ i = .int .i64 j ∧ w2.ownsRow w.heap.size 5 1 v (8 * k + j) ((bytesL (xs.take k) ++ (byte8 x).take j).map encB) ∧ Below w.heap.size w w2) (fun _ i _ => 8 - (intOf i).toNat)
   case atStart => exact ⟨0,Nat.zero_le _,rfl,by simpa using HOWN.out,HB.out⟩
   case round =>
    obtain ⟨j,hj,rfl,hown,hb⟩ := hrel
    by_cases hlt2 : j < 8
    ·have HTS := Lib.hid (byte8_take x j hlt2)
     have hsz := hb.size
     have HLT2 := Lib.hid hown.lt
     have HOWN2 := Lib.hid hown
     have HB2 := Lib.hid hb
     have hy : (x : Int) / 2 ^ (8 * j) % 256 = ((byteOf x j).toNat : Nat) := by
      have e : ((x : Int) / 2 ^ (8 * j) % 256) = ((x / 2 ^ (8 * j) % 256 : Nat) : Int) := by
       have h2 : ((2 : Int) ^ (8 * j)) = ((2 ^ (8 * j) : Nat) : Int) := by simp
       rw [h2];exact_mod_cast rfl
      rw [e,byteOf];simp
     have HE : Hid (encB (byteOf x j) = .int .u8 ((byteOf x j).toNat : Nat)) := rfl
     generalize (byteOf x j).toNat = y at *
     clear hown hb
     go_wp2_with (at_builtin;refine wpList_append_own _ rfl _ _ 26 rfl w.heap.size 5 i0 (.int .u8 0) 1 1 Tryz.underlyingBytes hi hz0 hz1 hz2 rfl (by decide) _ _ _ rfl (HOWN2.out.alloc _) ⟨wr.heap.size,0,none⟩ 1 1 [.int .u8 y] rfl rfl ?c1 ?c2 ?c3 ?c4 ?c5 ?_)
     case c1 =>
      intro j u hj
      match j,hj with
      | 0,hj => simp at hj;subst hj;simp [Addr.add]
     case c2 => intro u hu;simp at hu;subst hu;rfl
     case c3 => unfold maxLen;omega
     case c4 => omega
     case c5 => simp;omega
     intro v' w1 hown' hgrow _
     have hb1 : Below w.heap.size w w1 := (HB2.out.alloc hsz _).grown hgrow (by simp;omega) (fun j e => (HLT2.out j e).1)
     have HO1 : Hid (w1.ownsRow w.heap.size 5 1 v' (8 * k + (j + 1)) ((bytesL (xs.take k) ++ (byte8 x).take (j + 1)).map encB)) := by
      rw [Hid,HTS.out,<- List.append_assoc,List.map_append,List.map_cons,HE.out];simpa [Nat.add_assoc] using hown'
     clear hgrow hown' HOWN2 HB2 HLT2 hy
     go_wp2_with fail
     go_roundw
     case rel => exact ⟨j + 1,by omega,by go_num,HO1.out,hb1⟩
     case measure => simp [intOf];omega
    ·have hj8 : j = 8 := by omega
     subst hj8
     have HO1 : Hid (wr.ownsRow w.heap.size 5 1 u4 (8 * (k + 1)) ((bytesL (xs.take (k + 1))).map encB)) := by
      rw [Hid,HTK.out]
      rw [show (byte8 x).take 8 = byte8 x from List.take_of_length_le (by rw [byte8_length];omega)] at hown
      exact hown
     clear hown
     go_wp2_with fail
     go_roundw
     case rel => exact ⟨k + 1,by omega,by go_num,HO1.out,hb⟩
     case measure => simp [intOf];omega
  ·have hk8 : k = 8 := by omega
   subst hk8
   rw [List.take_of_length_le (by omega)] at hown
   obtain ⟨g,cap,rfl⟩ := ownsRow_succ (k := 63) hown
   obtain ⟨A',cc,e,h8c,hcm⟩ := owns_slice hown
   injection e with eA _ e
   subst eA
   subst e
   have HR := Lib.hid (row_of_own hown)
   have hg := (hown.lt g rfl)
   have HB := Lib.hid hb
   have HCF := Lib.hid (fun A cc W => AnyE.slices_ContainsFunc_empty Tryz.containsByte A cc (.func (.func 180) #[] #[]) W)
   clear hown hb
   by_cases hcap : cap = 64
   ·subst hcap
    go_wp2_with (first | go_step3 | (go_at_call 122;refine (HCF.out _ _ _).mono ?_;rintro e w' ⟨rfl,rfl⟩))
    rw [Exit.noGoto_ret]
    go_ret2
    exact ⟨g,_,rfl,rfl,hg.1,HR.out,HB.out⟩
   ·have hc2 : (cap == 64) = false := by rw [beq_eq_false_iff_ne];exact hcap
    have hc3 : ¬ cap <= 64 := by omega
    go_wp2_with (first | go_step3 | (go_at_call 122;refine (HCF.out _ _ _).mono ?_;rintro e w' ⟨rfl,rfl⟩))
    rw [Exit.noGoto_ret]
    go_ret2
    exact ⟨g,_,rfl,rfl,hg.1,HR.out,HB.out⟩
end
section
open Go.RowKit
attribute [local go_sem] Oper.semAt_some
theorem chunksN_any (n : Nat) (hn : n <= 448) (W : World) : Calls Tryz.prog 64 #[.int .i64 n] W fun e W' => e = .returned (.tuple #[.int .i64 ((n + 63) / 64 : Nat),.int .i64 0]) ∧ W' = W := by
 have h1 : decide ((n : Int) < 0) = false := decide_eq_false (by omega)
 have h2 : decide ((448 : Int) < n) = false := decide_eq_false (by omega)
 have h3 : ((n : Int) + 64 - 1).tdiv 64 = ((n + 63) / 64 : Nat) := by
  rw [show (n : Int) + 64 - 1 = ((n + 63 : Nat) : Int) from by omega]
  exact (Int.ofNat_tdiv _ _).symm
 go_enter Tryz.func64,Tryz.ntmps64
 go_wp2
 go_ret2
 exact ⟨by simp [h3],rfl⟩
theorem fits1_any (n : Int) (W : World) : Calls Tryz.prog 179 #[.int .i64 n] W fun e W' => e = .returned (.bool (decide (448 < n))) ∧ W' = W := by
 go_enter Tryz.func179,Tryz.ntmps179
 go_wp2
 go_ret
 exact ⟨rfl,rfl⟩
theorem fileFits_any (n : Nat) (hn : n <= 448) (b : Nat) (W : World) (hb : b < W.heap.size) (hc : W.cell? ⟨b,0,none⟩ = some (.int .i64 n)) :
  Calls Tryz.prog 119 #[.slice (some ⟨b,0,none⟩) 1 1] W fun e W' => e = .returned (.bool true) ∧ Below W.heap.size W W' := by
 have hC := AnyE.slices_ContainsFunc Tryz.containsInt (enc := fun n : Int => .int .i64 n) (fun x => decide (448 < x)) 179 #[] (enters_of Tryz.func179 (by kernel_rfl) rfl)
  b 0 1 1 [(n : Int)] W
  (fun W1 x _ => by
   refine (fits1_any x W1).mono ?_
   rintro e w' ⟨rfl,rfl⟩
   exact ⟨rfl,0,rfl⟩)
  (by simp) (by omega)
  (fun j hj => by
   have : j = 0 := by simp at hj;omega
   subst this
   exact hc)
 have e1 : ([(n : Int)].take 1).any (fun x => decide (448 < x)) = false := by simp;omega
 rw [e1] at hC
 have HC := Lib.hid hC
 clear hC e1
 go_enter Tryz.func119,Tryz.ntmps119
 go_wp2_with (go_at_call 170;refine HC.out.mono ?_;rintro e w' ⟨rfl,k,rfl⟩)
 go_ret
 exact ⟨rfl,below_drewN (Below.refl _ _) k⟩
def FreshB (base : Nat) (W : World) (bs : List UInt8) (v : Value) : Prop :=
 ∃ A n c,v = .slice A n c ∧ bs.length = n ∧ n <= c ∧ c <= maxLen ∧ RowAt W A (bs.map encB) ∧ ∀ ad,A = some ad -> base <= ad.block
theorem cloneFresh (bs : List UInt8) (b off n c : Nat) (w : World) (hl : bs.length = n) (hn : n <= 100000) (h : RowAt w (some ⟨b,off,none⟩) (bs.map encB)) :
  Calls Tryz.prog 120 #[.slice (some ⟨b,off,none⟩) n c] w fun e w' => ∃ v,e = .returned v ∧ FreshB w.heap.size w' bs v ∧ Below w.heap.size w w' := by
 obtain ⟨i0,hi,hz0,hz1,hz2⟩ := info_parts Tryz.infoU8
 have hc := AnyE.slices_Clone Tryz.cloneByte i0 (.int .u8 0) 1 1 hi hz0 hz1 hz2 rfl (by decide) Tryz.sizeOf5 b off n c (bs.map encB) w (by rw [List.length_map,hl,Nat.mul_one]) (by unfold maxLen;omega) (by omega)
  (fun j u hu => by
   obtain ⟨b',off',e,_,hc⟩ := h.get hu
   cases e;exact hc)
  (fun u hu => by obtain ⟨x,_,rfl⟩ := List.mem_map.1 hu;rfl)
 change Calls Tryz.prog 120 _ _ _ at hc
 refine hc.mono ?_
 rintro e w' ⟨v,rfl,hown,_,hb⟩
 have hlt := hown.lt
 obtain ⟨A,cap,rfl,h1,h2⟩ := owns_slice hown
 refine ⟨_,rfl,⟨A,n,cap,rfl,hl,h1,h2,row_of_own hown,fun ad e => ?_⟩,hb⟩
 rcases hown.2 with ⟨h3,_⟩ | ⟨g,cap',cur,h3,h4,_⟩
 ·cases h3;cases e
 ·cases h3;cases e;exact h4
theorem cloneNil (w : World) (c : Nat) :
  Calls Tryz.prog 120 #[.slice none 0 c] w fun e w' => ∃ v,e = .returned v ∧ FreshB w.heap.size w' [] v ∧ Below w.heap.size w w' := by
 refine (AnyE.slices_Clone_nil Tryz.cloneByte 0 c w).mono ?_
 rintro e w' ⟨rfl,rfl⟩
 exact ⟨_,rfl,⟨none,0,0,rfl,rfl,Nat.le_refl _,by simp [maxLen],RowAt.nil,fun _ e => by cases e⟩,Below.refl _ _⟩
theorem RowAt.drop {w : World} {b off : Nat} {cs : List Value} (h : RowAt w (some ⟨b,off,none⟩) cs) (k : Nat) : RowAt w (some ⟨b,off + k,none⟩) (cs.drop k) := fun hn => by
 rw [List.length_drop] at hn
 obtain ⟨b',off',e,hb,hc⟩ := h (by omega)
 cases e
 refine ⟨b,off + k,rfl,hb,fun j u hu => ?_⟩
 rw [List.getElem?_drop] at hu
 rw [Nat.add_assoc]
 exact hc _ _ hu
set_option maxRecDepth 100000 in
set_option maxHeartbeats 4000000 in
theorem fileRead_any (bs : List UInt8) (b off n c a m : Nat) (W : World) (hl : bs.length = n) (hn : n <= 448) (hnc : n <= c) (hcm : c <= maxLen) (ha : a < 9223372036854775808) (hm : m < 9223372036854775808) (h : RowAt W (some ⟨b,off,none⟩) (bs.map encB)) :
  Calls Tryz.prog 65 #[.slice (some ⟨b,off,none⟩) n c,.int .i64 a,.int .i64 m] W fun e W' => ∃ v,e = .returned (.tuple #[v,.int .i64 0]) ∧ Hid (FreshB W.heap.size W' ((bs.drop a).take m) v) ∧ Below W.heap.size W W' := by
 obtain ⟨lo,hlo⟩ : ∃ lo,min a n = lo := ⟨_,rfl⟩
 obtain ⟨k,hk⟩ : ∃ k,min m (n - lo) = k := ⟨_,rfl⟩
 have h1 : decide ((a : Int) < 0) = false := decide_eq_false (by omega)
 have h2 : decide ((m : Int) < 0) = false := decide_eq_false (by omega)
 have h3 : min (a : Int) (n : Int) = (lo : Int) := by omega
 have h5 : min (m : Int) ((n - lo : Nat) : Int) = (k : Int) := by omega
 have hle : lo <= n := by omega
 have hkl : k <= n - lo := by omega
 have HF := Lib.hid (fun b W => fileFits_any n hn b W)
 have HB : Hid ((bs.drop a).take m = (bs.drop lo).take k) := by
  rw [Hid,<- hk,<- hlo]
  by_cases hx : a <= n
  ·rw [Nat.min_eq_left hx,<- hl,<- List.length_drop]
   exact (List.take_eq_take_min ..)
  ·rw [show bs.drop a = [] from List.drop_eq_nil_of_le (by omega),show bs.drop (min a n) = [] from List.drop_eq_nil_of_le (by omega)]
   simp
 have HR := Lib.hid h
 have HCL := Lib.hid (fun bs off n c w hl hn h => cloneFresh bs b off n c w hl hn h)
 have HKL : Hid (((bs.drop lo).take k).length = k) := by rw [Hid,List.length_take,List.length_drop];omega
 clear h hlo hk
 go_enter Tryz.func65,Tryz.ntmps65
 by_cases hc : c = lo
 ·obtain rfl : c = lo := hc
  obtain rfl : c = n := by omega
  obtain rfl : k = 0 := by omega
  have h6 : min (m : Int) 0 = 0 := by omega
  clear h5
  go_wp2_with (first
   | (go_at_call 119;refine (HF.out _ _ (by simp) (by simp)).mono ?_;rintro e w2 ⟨rfl,hb2⟩)
   | (go_at_call 120;refine (HCL.out ((bs.drop c).take 0) _ _ _ _ HKL.out (by omega) (by rw [List.take_zero];exact RowAt.nil)).mono ?_;rintro e w3 ⟨v,rfl,hv,hb3⟩))
  go_ret2
  rw [HB.out]
  have hs2 := hb2.size
  simp only [World.alloc,Array.size_push] at hs2
  obtain ⟨A,n',c',e1,e2,e3,e4,e5,e6⟩ := hv
  exact ⟨v,rfl,⟨A,n',c',e1,e2,e3,e4,e5,fun ad e => by have := e6 ad e;omega⟩,(((Below.refl _ _).alloc (Nat.le_refl _) _).trans (hb2.mono (by simp))).trans (hb3.mono (by omega))⟩
 ·have hc2 : (c == lo) = false := by rw [beq_eq_false_iff_ne];exact hc
  go_wp2_with (first
   | (go_at_call 119;refine (HF.out _ _ (by simp) (by simp)).mono ?_;rintro e w2 ⟨rfl,hb2⟩;have HR2 : Hid (RowAt w2 (some ⟨b,off + lo,none⟩) (((bs.drop lo).take k).map encB)) := (by
     rw [Hid,List.map_take,List.map_drop]
     exact ((((HR.out.alloc _).below hb2).drop lo).take k)))
   | (go_at_call 120;refine (HCL.out ((bs.drop lo).take k) _ _ _ _ HKL.out (by omega) HR2.out).mono ?_;rintro e w3 ⟨v,rfl,hv,hb3⟩))
  go_ret2
  rw [HB.out]
  have hs2 := hb2.size
  simp only [World.alloc,Array.size_push] at hs2
  obtain ⟨A,n',c',e1,e2,e3,e4,e5,e6⟩ := hv
  exact ⟨v,rfl,⟨A,n',c',e1,e2,e3,e4,e5,fun ad e => by have := e6 ad e;omega⟩,(((Below.refl _ _).alloc (Nat.le_refl _) _).trans (hb2.mono (by simp))).trans (hb3.mono (by omega))⟩
end
section
open Go.RowKit
attribute [local go_sem] Oper.semAt_some
set_option maxRecDepth 100000 in
theorem fileRead_nil (a m : Nat) (W : World) (ha : a < 9223372036854775808) (hm : m < 9223372036854775808) :
  Calls Tryz.prog 65 #[.slice none 0 0,.int .i64 a,.int .i64 m] W fun e W' => ∃ v,e = .returned (.tuple #[v,.int .i64 0]) ∧ Hid (FreshB W.heap.size W' [] v) ∧ Below W.heap.size W W' := by
 have h1 : decide ((a : Int) < 0) = false := decide_eq_false (by omega)
 have h2 : decide ((m : Int) < 0) = false := decide_eq_false (by omega)
 have h3 : min (a : Int) 0 = 0 := by omega
 have h5 : min (m : Int) 0 = 0 := by omega
 have HF := Lib.hid (fun b W h0 h1 => fileFits_any 0 (by omega) b W h0 h1)
 have HCL := Lib.hid (fun W => cloneNil W 0)
 go_enter Tryz.func65,Tryz.ntmps65
 go_wp2_with (first
  | (go_at_call 119;refine (HF.out _ _ (by simp) (by simp)).mono ?_;rintro e w2 ⟨rfl,hb2⟩)
  | (go_at_call 120;refine (HCL.out _).mono ?_;rintro e w3 ⟨v,rfl,hv,hb3⟩))
 go_ret2
 have hs2 := hb2.size
 simp only [World.alloc,Array.size_push] at hs2
 obtain ⟨A,n',c',e1,e2,e3,e4,e5,e6⟩ := hv
 exact ⟨v,rfl,⟨A,n',c',e1,e2,e3,e4,e5,fun ad e => by have := e6 ad e;omega⟩,(((Below.refl _ _).alloc (Nat.le_refl _) _).trans (hb2.mono (by simp))).trans (hb3.mono (by omega))⟩
set_option maxRecDepth 100000 in
set_option maxHeartbeats 4000000 in
theorem fileJoin_any (xs : List Nat) (hx : xs.length = 8) (hx64 : ∀ x ∈ xs,x < 18446744073709551616) (b : Nat) (w : World) (hc : ∀ i,i < 8 -> w.cell? ⟨b,i,none⟩ = some (wordsC xs i)) :
  Calls Tryz.prog 67 #[.int .i64 64,.slice (some ⟨b,0,none⟩) 1 1] w fun e w' => ∃ g cc,e = .returned (.tuple #[.slice (some ⟨g,0,none⟩) 64 cc,.int .i64 0]) ∧ cc = 64 ∧ w.heap.size <= g ∧ RowAt w' (some ⟨g,0,none⟩) ((bytesL xs).map encB) ∧ Below w.heap.size w w' := by
 obtain ⟨i0,hi,hz0,hz1,hz2⟩ := info_parts Tryz.infoU8
 have HCH := Lib.hid (fun W => chunksN_any 64 (by omega) W)
 have HW := Lib.hid (fun b off c w h => bytes64_any xs hx hx64 b off c w h)
 have c0 := hc 0 (by omega)
 have c1 := hc 1 (by omega)
 have c2 := hc 2 (by omega)
 have c3 := hc 3 (by omega)
 have c4 := hc 4 (by omega)
 have c5 := hc 5 (by omega)
 have c6 := hc 6 (by omega)
 have c7 := hc 7 (by omega)
 obtain ⟨w4,hw4⟩ : ∃ w4,w.alloc (.cells #[wordsC xs 0,wordsC xs 1,wordsC xs 2,wordsC xs 3,wordsC xs 4,wordsC xs 5,wordsC xs 6,wordsC xs 7] 136) = w4 := ⟨_,rfl⟩
 have HCT : Hid (CellsAt w4 w.heap.size 8 (wordsC xs)) := by
  rw [Hid,<- hw4]
  exact cellsAt_new _ _ _ _ _ fun i hi => match i,hi with | 0,_ => rfl | 1,_ => rfl | 2,_ => rfl | 3,_ => rfl | 4,_ => rfl | 5,_ => rfl | 6,_ => rfl | 7,_ => rfl
 have HBP : Hid (Below w.heap.size w w4) := by
  rw [Hid,<- hw4]
  exact (Below.refl _ _).alloc (Nat.le_refl _) _
 have hs4 : w4.heap.size = w.heap.size + 1 := by rw [<- hw4];simp
 unfold wordsC at hw4
 have HW4 := Lib.hid hw4
 clear hw4
 have HGF : Hid (∀ k x : Nat,xs[k]? = some x -> wordsC xs k = .int .u64 (x : Nat)) := fun k x h => by
  unfold wordsC getF
  rw [List.getD_eq_getElem?_getD,h];rfl
 have HBL : Hid ((bytesL xs).length = 64) := by rw [Hid,bytesL_length,hx]
 have HLK : Hid (∀ k x : Nat,xs[k]? = some x -> k < 8) := fun k x h => by have := (List.getElem?_eq_some_iff.1 h).1;omega
 unfold wordsC at c0 c1 c2 c3 c4 c5 c6 c7
 clear hc hx64
 go_enter Tryz.func67,Tryz.ntmps67
 go_wp2_with (first
  | (go_at_call 64;refine (HCH.out _).mono ?_;rintro e w2 ⟨rfl,rfl⟩))
 refine wp_loop_rounds 2 ?_
 rw [rounds_succ]
 go_wp2_with (first
  | (go_at_call 121;rw [HW4.out];refine (HW.out w2.heap.size 0 8 _ (fun k x hk => by rw [Nat.zero_add];exact (HCT.out.1 k (HLK.out k x hk)).trans (congrArg some (HGF.out k x hk)))).mono ?_;rintro e w3 ⟨g,cc,rfl,rfl,hg,hr3,hb3⟩)
  | (at_builtin;refine wpList_append_own _ rfl _ _ 26 rfl w2.heap.size 5 i0 (.int .u8 0) 1 1 Tryz.underlyingBytes hi hz0 hz1 hz2 rfl (by decide) (.slice none 0 0) 0 [] rfl (World.ownsRow_nil _ _ _ _) ⟨g,0,none⟩ 64 64 ((bytesL xs).map encB) rfl ?c1 ?c2 ?c3 ?c4 ?c5 ?c6 ?_))
 case c1 => rw [List.length_map,HBL.out]
 case c2 =>
  intro j u hj
  rw [plain_add]
  obtain ⟨b',off',e,_,h⟩ := hr3.get hj
  cases e
  exact h
 case c3 => intro u hu;obtain ⟨x,_,rfl⟩ := List.mem_map.1 hu;rfl
 case c4 => unfold maxLen;omega
 case c5 => omega
 case c6 => have := hb3.size;omega
 have hlt3 : w4.heap.size <= g := hg
 have HB3 := Lib.hid hb3
 have hs3 := hb3.size
 clear hr3 hb3
 intro v' w5 hown hgrow _
 obtain ⟨g2,cap,rfl⟩ := ownsRow_succ (k := 63) hown
 obtain ⟨A',cc,e,h8c,hcm⟩ := owns_slice hown
 injection e with eA _ e
 subst eA
 subst e
 have HR := Lib.hid (row_of_own hown)
 have hg2 := (hown.lt g2 rfl)
 have HB : Hid (Below w2.heap.size w2 w5) := (HBP.out.trans (HB3.out.mono (by omega))).grown hgrow (by omega) (fun j e => by cases e)
 have HCF := Lib.hid (fun A cc W => AnyE.slices_ContainsFunc_empty Tryz.containsByte A cc (.func (.func 123) #[] #[]) W)
 clear hown hgrow
 by_cases hcap : cap = 64
 ·subst hcap
  go_wp2_with fail
  rw [rounds_succ]
  go_wp2_with (first | (go_at_call 122;refine (HCF.out _ _ _).mono ?_;rintro e w' ⟨rfl,rfl⟩))
  go_ret2
  exact ⟨g2,_,rfl,rfl,hg2.1,HR.out,HB.out⟩
 ·have hc2 : (cap == 64) = false := by rw [beq_eq_false_iff_ne];exact hcap
  have hc3 : ¬ cap <= 64 := by omega
  go_wp2_with fail
  rw [rounds_succ]
  go_wp2_with (first | (go_at_call 122;refine (HCF.out _ _ _).mono ?_;rintro e w' ⟨rfl,rfl⟩))
  go_ret2
  exact ⟨g2,_,rfl,rfl,hg2.1,HR.out,HB.out⟩
end
end Go.Proofs.YtdpooagnbmpinaaGreatDoor
