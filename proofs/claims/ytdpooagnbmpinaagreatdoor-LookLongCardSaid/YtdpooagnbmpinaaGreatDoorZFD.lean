import Derived.Test.YtdpooagnbmpinaaGreatDoorZF7
import Derived.Test.YtdpooagnbmpinaaGreatDoorZEP
import Derived.Test.YtdpooagnbmpinaaGreatDoorZK9
import Derived.Deep.CutRange
import Derived.Deep.QuietTactic
import Derived.BigQuiet
namespace Go.Proofs.YtdpooagnbmpinaaGreatDoor
section
open Go.RowKit Go.Maps
attribute [local go_sem] Oper.semAt_some
def RowsAt (base : Nat) (W : World) (r : ResP) (NA : Option Addr) (nn nc : Nat) (BA : Option Addr) (bn bc : Nat) : Prop :=
 r.names.length = nn ∧ r.bytes.length = bn ∧ nn <= nc ∧ bn <= bc ∧ bc <= maxLen ∧ nc <= maxLen ∧
  RowAt W NA (r.names.map encT) ∧ RowAt W BA (r.bytes.map encB) ∧ (∀ ad,NA = some ad -> base <= ad.block) ∧ (∀ ad,BA = some ad -> base <= ad.block)
theorem RowsAt.below {base n : Nat} {W W' : World} {r : ResP} {NA BA : Option Addr} {nn nc bn bc : Nat} (h : RowsAt base W r NA nn nc BA bn bc) (hb : Below W.heap.size W W') (hn : n <= base) : RowsAt n W' r NA nn nc BA bn bc := by
 obtain ⟨h2,h3,h4,h5,h6,h7,h8,h9,h10,h11⟩ := h
 exact ⟨h2,h3,h4,h5,h6,h7,h8.below hb,h9.below hb,fun ad e => Nat.le_trans hn (h10 ad e),fun ad e => Nat.le_trans hn (h11 ad e)⟩
theorem rowsAt_nil (base : Nat) (W : World) {r : ResP} (h1 : r.names = []) (h2 : r.bytes = []) : RowsAt base W r none 0 0 none 0 0 := by
 refine ⟨by rw [h1];rfl,by rw [h2];rfl,Nat.le_refl _,Nat.le_refl _,by unfold maxLen;omega,by unfold maxLen;omega,?_,?_,by simp,by simp⟩
 ·rw [h1];exact RowAt.nil
 ·rw [h2];exact RowAt.nil
def lookV (l : LookP) (NA : Option Addr) (nn nc : Nat) (BA : Option Addr) (bn bc : Nat) : Value :=
 .agg #[.bool l.more,.int .i64 l.at_,.int .i64 l.used,.int .i64 l.res.no,.int .i64 l.res.kind,.int .i64 l.res.links,.int .i64 l.res.n,.slice NA nn nc,.slice BA bn bc]
def LookR (l : LookP × Int) (W : World) (e : Ending) (W' : World) : Prop :=
 (∃ NA nn nc BA bn bc,e = .returned (.tuple #[lookV l.1 NA nn nc BA bn bc,.int .i64 l.2]) ∧ RowsAt W.heap.size W' l.1.res NA nn nc BA bn bc) ∧ Below W.heap.size W W'
variable {FA : Option Addr} {nf cf : Nat} {fed : List Nat}
def cellsLk (l : LookP) (NA : Option Addr) (nn nc : Nat) (BA : Option Addr) (bn bc : Nat) : Nat -> Value
 | 0 => .bool l.more
 | 1 => .int .i64 l.at_
 | 2 => .int .i64 l.used
 | 3 => .int .i64 l.res.no
 | 4 => .int .i64 l.res.kind
 | 5 => .int .i64 l.res.links
 | 6 => .int .i64 l.res.n
 | 7 => .slice NA nn nc
 | _ => .slice BA bn bc
structure RunBegun (k : Int) (p d : ByteArray) (a n : Int) (A : Option Addr) (m c : Nat) (W W0 : World) : Prop where
 below : Below W.heap.size W W0
 size : W0.heap.size = W.heap.size + 2
 op : CellsAt W0 W.heap.size 6 (cellsOp k p d a n A m c)
 look : CellsAt W0 (W.heap.size + 1) 9 (cellsLk lookZero none 0 0 none 0 0)
theorem runBegun (k : Int) (p d : ByteArray) (a n : Int) (A : Option Addr) (m c : Nat) (W W0 : World) (hW0 : (W.alloc (.cells #[.int .i64 k,.string p,.string d,.int .i64 a,.int .i64 n,.slice A m c] 28)).alloc (.cells #[.bool false,.int .i64 0,.int .i64 0,.int .i64 0,.int .i64 0,.int .i64 0,.int .i64 0,.slice none 0 0,.slice none 0 0] 35) = W0) : RunBegun k p d a n A m c W W0 := by
 refine ⟨?_,?_,?_,?_⟩
 ·rw [<- hW0];exact ((Below.refl _ _).alloc (Nat.le_refl _) _).alloc (by simp) _
 ·rw [<- hW0];simp
 ·rw [<- hW0]
  exact (cellsAt_new W _ _ 6 _ fun i hi => match i,hi with | 0,_ => rfl | 1,_ => rfl | 2,_ => rfl | 3,_ => rfl | 4,_ => rfl | 5,_ => rfl).below (m := W.heap.size + 1) ((Below.refl _ _).alloc (by simp) _) (by omega)
 ·rw [<- hW0]
  have := cellsAt_new (W.alloc (.cells #[.int .i64 k,.string p,.string d,.int .i64 a,.int .i64 n,.slice A m c] 28)) #[.bool false,.int .i64 0,.int .i64 0,.int .i64 0,.int .i64 0,.int .i64 0,.int .i64 0,.slice none 0 0,.slice none 0 0] 35 9 (cellsLk lookZero none 0 0 none 0 0) fun i hi => match i,hi with | 0,_ => rfl | 1,_ => rfl | 2,_ => rfl | 3,_ => rfl | 4,_ => rfl | 5,_ => rfl | 6,_ => rfl | 7,_ => rfl | 8,_ => rfl
  rw [show (W.alloc (.cells #[.int .i64 k,.string p,.string d,.int .i64 a,.int .i64 n,.slice A m c] 28)).heap.size = W.heap.size + 1 from by simp] at this
  exact this
theorem run_ret {W wE : World} {l : LookP} {z : Int} {NA BA : Option Addr} {nn nc bn bc : Nat} {tmps : Array Value} (h : CellsAt wE (W.heap.size + 1) 9 (cellsLk l NA nn nc BA bn bc)) (hb : Below W.heap.size W wE) (hrow : RowsAt W.heap.size wE l.res NA nn nc BA bn bc)
  (h4 : tmps[4]? = some (.pointer (some ⟨W.heap.size + 1,0,none⟩))) (h5 : tmps[5]? = some (.int .i64 z)) :
  bodyPost Tryz.prog Tryz.f8 (LookR (l,z) W) .ret ⟨tmps,[]⟩ wE := by
 have g0 := h.1 0 (by omega)
 have g1 := h.1 1 (by omega)
 have g2 := h.1 2 (by omega)
 have g3 := h.1 3 (by omega)
 have g4 := h.1 4 (by omega)
 have g5 := h.1 5 (by omega)
 have g6 := h.1 6 (by omega)
 have g7 := h.1 7 (by omega)
 have g8 := h.1 8 (by omega)
 simp only [cellsLk] at g0 g1 g2 g3 g4 g5 g6 g7 g8
 refine bodyPost_ret (v := .tuple #[lookV l NA nn nc BA bn bc,.int .i64 z]) ?_ rfl ⟨⟨NA,nn,nc,BA,bn,bc,rfl,hrow⟩,hb⟩
 simp [results,Tryz.results8,go_sem,h4,h5,g0,g1,g2,g3,g4,g5,g6,g7,g8,lookV]
set_option maxRecDepth 100000 in
set_option maxHeartbeats 4000000 in
theorem lookRun_no (k : Int) (p d : ByteArray) (a n : Int) (A : Option Addr) (m c : Nat) (bs : List UInt8) (W : World) (hk64 : -9223372036854775808 <= k ∧ k < 9223372036854775808) (hp : p.size < 4294967281) (hd : d.size < 4294967281) (hl : bs.length = m) (hm : m <= maxLen) (hrow : RowAt W A (bs.map encB)) (ha : a < 9223372036854775808) (hn : n < 9223372036854775808)
  (z : Int) (hz : (refuseN k (bytesOf p) (bytesOf d) a n m ≠ 0 ∧ z = refuseN k (bytesOf p) (bytesOf d) a n m) ∨ (refuseN k (bytesOf p) (bytesOf d) a n m = 0 ∧ 20000 < nf ∧ z = 3)) :
  Calls Tryz.prog 8 #[opV k p d a n A m c,.slice FA nf cf] W (LookR (lookZero,z) W) := by
 obtain ⟨W0,hW0⟩ : ∃ W0,(W.alloc (.cells #[.int .i64 k,.string p,.string d,.int .i64 a,.int .i64 n,.slice A m c] 28)).alloc (.cells #[.bool false,.int .i64 0,.int .i64 0,.int .i64 0,.int .i64 0,.int .i64 0,.int .i64 0,.slice none 0 0,.slice none 0 0] 35) = W0 := ⟨_,rfl⟩
 have h0 := runBegun k p d a n A m c W W0 hW0
 have hck := mcheck_any k p d a n A m c bs W0 hk64 hp hd hl hm (hrow.below h0.below) ha hn
 have hask := asks_any k
 have H0 := Lib.hid h0
 have HW0 := Lib.hid hW0
 have hs0 := h0.size
 have hways : (decide (1 <= k ∧ k <= 3) = false ∧ z = 2) ∨ (decide (1 <= k ∧ k <= 3) = true ∧ checkN k (bytesOf p) (bytesOf d) a n m ≠ 0 ∧ z = checkN k (bytesOf p) (bytesOf d) a n m) ∨ (decide (1 <= k ∧ k <= 3) = true ∧ checkN k (bytesOf p) (bytesOf d) a n m = 0 ∧ 20000 < nf ∧ z = 3) := by
  unfold refuseN at hz
  by_cases h1 : k < 1 ∨ 3 < k
  ·rw [if_pos h1] at hz
   refine .inl ⟨decide_eq_false (by omega),?_⟩
   rcases hz with h | h
   ·exact h.2
   ·cases h.1
  ·rw [if_neg h1] at hz
   have ht : decide (1 <= k ∧ k <= 3) = true := decide_eq_true (by omega)
   rcases hz with h | h
   ·exact .inr (.inl ⟨ht,h.1,h.2⟩)
   ·exact .inr (.inr ⟨ht,h.1,h.2.1,h.2.2⟩)
 generalize checkN k (bytesOf p) (bytesOf d) a n m = cz at *
 generalize decide (1 <= k ∧ k <= 3) = kb at *
 unfold opV at hck ⊢
 have HCK := Lib.hid hck
 have HAS := Lib.hid hask
 clear hck hask h0 hW0 hz hrow hl
 rcases hways with ⟨rfl,rfl⟩ | ⟨rfl,hcz,rfl⟩ | ⟨rfl,rfl,hnf2,rfl⟩
 ·go_enter Tryz.func8,Tryz.ntmps8
  go_wp2_with (first
   | (go_at_call 17;rw [HW0.out];refine HCK.out.mono ?_;rintro e w2 ⟨rfl,hb2⟩;have hOP := H0.out.op.below hb2 (by omega);have o0 : w2.cell? ⟨W.heap.size,0,none⟩ = some (.int .i64 k) := hOP.1 0 (by omega);have HL2 := Lib.hid (H0.out.look.below hb2 (by omega));have l0 : w2.cell? ⟨W.heap.size + 1,0,none⟩ = some (.bool false) := HL2.out.1 0 (by omega);have l1 : w2.cell? ⟨W.heap.size + 1,1,none⟩ = some (.int .i64 0) := HL2.out.1 1 (by omega);have l2 : w2.cell? ⟨W.heap.size + 1,2,none⟩ = some (.int .i64 0) := HL2.out.1 2 (by omega);have l3 : w2.cell? ⟨W.heap.size + 1,3,none⟩ = some (.int .i64 0) := HL2.out.1 3 (by omega);have l4 : w2.cell? ⟨W.heap.size + 1,4,none⟩ = some (.int .i64 0) := HL2.out.1 4 (by omega);have l5 : w2.cell? ⟨W.heap.size + 1,5,none⟩ = some (.int .i64 0) := HL2.out.1 5 (by omega);have l6 : w2.cell? ⟨W.heap.size + 1,6,none⟩ = some (.int .i64 0) := HL2.out.1 6 (by omega);have l7 : w2.cell? ⟨W.heap.size + 1,7,none⟩ = some (.slice none 0 0) := HL2.out.1 7 (by omega);have l8 : w2.cell? ⟨W.heap.size + 1,8,none⟩ = some (.slice none 0 0) := HL2.out.1 8 (by omega);have hfr : ∀ i,w2.frozen? ⟨W.heap.size + 1,i,none⟩ = false := HL2.out.2;have HB2 := Lib.hid (H0.out.below.trans (hb2.mono (by omega)));clear hb2 hOP)
   | (go_at_call 18;refine (HAS.out _).mono ?_;rintro e w3 ⟨rfl,rfl⟩))
  have HE : Hid (CellsAt (putTo w3 (W.heap.size + 1) (cellsLk lookZero none 0 0 none 0 0) 9) (W.heap.size + 1) 9 (cellsLk lookZero none 0 0 none 0 0)) := putTo_all HL2.out
  have HBE : Hid (Below W.heap.size W (putTo w3 (W.heap.size + 1) (cellsLk lookZero none 0 0 none 0 0) 9)) := below_putTo HB2.out (by omega) 9
  exact run_ret HE.out HBE.out (rowsAt_nil _ _ rfl rfl) rfl rfl
 ·have hzb : (z != 0) = true := by rw [bne_iff_ne];exact hcz
  have hzc : (z == 0) = false := by rw [beq_eq_false_iff_ne];exact hcz
  go_enter Tryz.func8,Tryz.ntmps8
  go_wp2_with (first
   | (go_at_call 17;rw [HW0.out];refine HCK.out.mono ?_;rintro e w2 ⟨rfl,hb2⟩;have hOP := H0.out.op.below hb2 (by omega);have o0 : w2.cell? ⟨W.heap.size,0,none⟩ = some (.int .i64 k) := hOP.1 0 (by omega);have HL2 := Lib.hid (H0.out.look.below hb2 (by omega));have l0 : w2.cell? ⟨W.heap.size + 1,0,none⟩ = some (.bool false) := HL2.out.1 0 (by omega);have l1 : w2.cell? ⟨W.heap.size + 1,1,none⟩ = some (.int .i64 0) := HL2.out.1 1 (by omega);have l2 : w2.cell? ⟨W.heap.size + 1,2,none⟩ = some (.int .i64 0) := HL2.out.1 2 (by omega);have l3 : w2.cell? ⟨W.heap.size + 1,3,none⟩ = some (.int .i64 0) := HL2.out.1 3 (by omega);have l4 : w2.cell? ⟨W.heap.size + 1,4,none⟩ = some (.int .i64 0) := HL2.out.1 4 (by omega);have l5 : w2.cell? ⟨W.heap.size + 1,5,none⟩ = some (.int .i64 0) := HL2.out.1 5 (by omega);have l6 : w2.cell? ⟨W.heap.size + 1,6,none⟩ = some (.int .i64 0) := HL2.out.1 6 (by omega);have l7 : w2.cell? ⟨W.heap.size + 1,7,none⟩ = some (.slice none 0 0) := HL2.out.1 7 (by omega);have l8 : w2.cell? ⟨W.heap.size + 1,8,none⟩ = some (.slice none 0 0) := HL2.out.1 8 (by omega);have hfr : ∀ i,w2.frozen? ⟨W.heap.size + 1,i,none⟩ = false := HL2.out.2;have HB2 := Lib.hid (H0.out.below.trans (hb2.mono (by omega)));clear hb2 hOP)
   | (go_at_call 18;refine (HAS.out _).mono ?_;rintro e w3 ⟨rfl,rfl⟩))
  have HE : Hid (CellsAt (putTo w3 (W.heap.size + 1) (cellsLk lookZero none 0 0 none 0 0) 9) (W.heap.size + 1) 9 (cellsLk lookZero none 0 0 none 0 0)) := putTo_all HL2.out
  have HBE : Hid (Below W.heap.size W (putTo w3 (W.heap.size + 1) (cellsLk lookZero none 0 0 none 0 0) 9)) := below_putTo HB2.out (by omega) 9
  exact run_ret HE.out HBE.out (rowsAt_nil _ _ rfl rfl) rfl rfl
 ·have hnb : decide ((20000 : Int) < (nf : Int)) = true := by simp;omega
  go_enter Tryz.func8,Tryz.ntmps8
  go_wp2_with (first
   | (go_at_call 17;rw [HW0.out];refine HCK.out.mono ?_;rintro e w2 ⟨rfl,hb2⟩;have hOP := H0.out.op.below hb2 (by omega);have o0 : w2.cell? ⟨W.heap.size,0,none⟩ = some (.int .i64 k) := hOP.1 0 (by omega);have HL2 := Lib.hid (H0.out.look.below hb2 (by omega));have l0 : w2.cell? ⟨W.heap.size + 1,0,none⟩ = some (.bool false) := HL2.out.1 0 (by omega);have l1 : w2.cell? ⟨W.heap.size + 1,1,none⟩ = some (.int .i64 0) := HL2.out.1 1 (by omega);have l2 : w2.cell? ⟨W.heap.size + 1,2,none⟩ = some (.int .i64 0) := HL2.out.1 2 (by omega);have l3 : w2.cell? ⟨W.heap.size + 1,3,none⟩ = some (.int .i64 0) := HL2.out.1 3 (by omega);have l4 : w2.cell? ⟨W.heap.size + 1,4,none⟩ = some (.int .i64 0) := HL2.out.1 4 (by omega);have l5 : w2.cell? ⟨W.heap.size + 1,5,none⟩ = some (.int .i64 0) := HL2.out.1 5 (by omega);have l6 : w2.cell? ⟨W.heap.size + 1,6,none⟩ = some (.int .i64 0) := HL2.out.1 6 (by omega);have l7 : w2.cell? ⟨W.heap.size + 1,7,none⟩ = some (.slice none 0 0) := HL2.out.1 7 (by omega);have l8 : w2.cell? ⟨W.heap.size + 1,8,none⟩ = some (.slice none 0 0) := HL2.out.1 8 (by omega);have hfr : ∀ i,w2.frozen? ⟨W.heap.size + 1,i,none⟩ = false := HL2.out.2;have HB2 := Lib.hid (H0.out.below.trans (hb2.mono (by omega)));clear hb2 hOP)
   | (go_at_call 18;refine (HAS.out _).mono ?_;rintro e w3 ⟨rfl,rfl⟩))
  have HE : Hid (CellsAt (putTo w3 (W.heap.size + 1) (cellsLk lookZero none 0 0 none 0 0) 9) (W.heap.size + 1) 9 (cellsLk lookZero none 0 0 none 0 0)) := putTo_all HL2.out
  have HBE : Hid (Below W.heap.size W (putTo w3 (W.heap.size + 1) (cellsLk lookZero none 0 0 none 0 0) 9)) := below_putTo HB2.out (by omega) 9
  exact run_ret HE.out HBE.out (rowsAt_nil _ _ rfl rfl) rfl rfl
end
section
open Go.RowKit Go.Maps
attribute [local go_sem] Oper.semAt_some
variable {FA : Option Addr} {nf cf : Nat} {fed : List Nat}
theorem rowAt_putTo {W : World} {A : Option Addr} {cs : List Value} {base X : Nat} {f : Nat -> Value} (h : RowAt W A cs) (hA : ∀ ad,A = some ad -> base <= ad.block) (hX : X < base) (m : Nat) : RowAt (putTo W X f m) A cs := fun hn => by
 obtain ⟨b,off,rfl,hb,hc⟩ := h hn
 exact ⟨b,off,rfl,by rw [putTo_size];exact hb,fun k v hv => (putTo_other (by have := hA _ rfl;show b ≠ X;simp only at this;omega) m).trans (hc k v hv)⟩
theorem RowsAt.putTo {base X : Nat} {W : World} {r : ResP} {NA BA : Option Addr} {nn nc bn bc : Nat} {f : Nat -> Value} (h : RowsAt base W r NA nn nc BA bn bc) (hX : X < base) (m : Nat) : RowsAt base (Go.Proofs.YtdpooagnbmpinaaGreatDoor.putTo W X f m) r NA nn nc BA bn bc := by
 obtain ⟨h2,h3,h4,h5,h6,h7,h8,h9,h10,h11⟩ := h
 exact ⟨h2,h3,h4,h5,h6,h7,rowAt_putTo h8 h10 hX m,rowAt_putTo h9 h11 hX m,h10,h11⟩
def LastRd (R E u : Nat) (r : ResP) (NA : Option Addr) (nn nc : Nat) (BA : Option Addr) (bn bc : Nat) (w : World) : Prop :=
 w.cell? ⟨R + 1,0,none⟩ = some (.pointer (some ⟨R,0,none⟩)) ∧ w.cell? ⟨R,1,none⟩ = some (.int .i64 (u : Nat)) ∧ CellsAt w E 6 (cellsO r NA nn nc BA bn bc)
set_option maxRecDepth 100000 in
set_option maxHeartbeats 8000000 in
theorem lookRun_yes (q : Nat) (p d : ByteArray) (a n : Int) (A : Option Addr) (m c : Nat) (bs : List UInt8) (W : World) (hp : p.size < 4294967281) (hd : d.size < 4294967281) (hl : bs.length = m) (hm : m <= maxLen) (hrow : RowAt W A (bs.map encB)) (ha : a < 9223372036854775808) (hn : n < 9223372036854775808)
  (hfl : fed.length = nf) (hnf : nf <= 20000) (hx64 : ∀ x ∈ fed,x < 18446744073709551616) (hfrow : RowAt W FA (fed.map encW)) (hz : refuseN q (bytesOf p) (bytesOf d) a n m = 0) :
  Calls Tryz.prog 8 #[opV q p d a n A m c,.slice FA nf cf] W (LookR (lookOf (lookF (readP (bytesOf p)).2 q a.toNat n.toNat fed []),0) W) := by
 have hq : 1 <= q ∧ q <= 3 := by
  unfold refuseN at hz
  by_cases h1 : (q : Int) < 1 ∨ 3 < (q : Int)
  ·rw [if_pos h1] at hz;cases hz
  ·omega
 have hcz : checkN q (bytesOf p) (bytesOf d) a n m = 0 := by
  unfold refuseN at hz
  rwa [if_neg (by omega)] at hz
 have hrd : (readP (bytesOf p)).1 = 0 := by
  unfold checkN at hcz
  rw [if_neg (by omega)] at hcz
  by_cases h1 : (readP (bytesOf p)).1 = 0
  ·exact h1
  ·rw [if_pos h1] at hcz;exact absurd hcz h1
 have han : q = 3 -> 0 <= a ∧ a < 9223372036854775808 ∧ 0 <= n ∧ n < 9223372036854775808 := fun h => by
  subst h
  unfold checkN at hcz
  rw [if_neg (by omega),if_neg (by rw [hrd];exact fun h => h rfl),if_neg (by omega),if_pos (show ((3 : Nat) : Int) = 3 from rfl)] at hcz
  by_cases h2 : a < 0 ∨ n < 0
  ·rw [if_pos h2] at hcz;cases hcz
  ·omega
 have hbg : begunN (bytesOf p) nf = 0 := by unfold begunN;rw [if_pos hrd,if_neg (by omega)]
 obtain ⟨W0,hW0⟩ : ∃ W0,(W.alloc (.cells #[.int .i64 (q : Int),.string p,.string d,.int .i64 a,.int .i64 n,.slice A m c] 28)).alloc (.cells #[.bool false,.int .i64 0,.int .i64 0,.int .i64 0,.int .i64 0,.int .i64 0,.int .i64 0,.slice none 0 0,.slice none 0 0] 35) = W0 := ⟨_,rfl⟩
 have h0 := runBegun q p d a n A m c W W0 hW0
 have hck := mcheck_any q p d a n A m c bs W0 (by omega) hp hd hl hm (hrow.below h0.below) ha hn
 have hask := asks_any q
 rw [decide_eq_true (show 1 <= (q : Int) ∧ (q : Int) <= 3 by omega)] at hask
 rw [hcz] at hck
 have H0 := Lib.hid h0
 have HW0 := Lib.hid hW0
 have hs0 := h0.size
 unfold opV at hck ⊢
 have HCK := Lib.hid hck
 have HAS := Lib.hid hask
 have HX := Lib.hid hx64
 have HFL := Lib.hid hfl
 have HFR := Lib.hid hfrow
 have hq1 : 1 <= q := hq.1
 have hq2 : q <= 3 := hq.2
 have HAN := Lib.hid han
 have HRN := Lib.hid (fun (Ob Rp R : Nat) (W : World) hO hP hOR hPR (h : RuAt R FA nf cf fed 0 W) => lrun1_any Ob Rp q hq p d a n A m c W hp hbg han hnf hx64 hO hP hOR hPR h)
 clear hck hask h0 hW0 hz hrow hl hcz hrd hq hx64 hfl hfrow han hbg
 generalize lookF (readP (bytesOf p)).2 q a.toNat n.toNat fed [] = r at *
 go_enter Tryz.func8,Tryz.ntmps8
 go_wp2_with (first
  | (go_at_call 17;rw [HW0.out];refine HCK.out.mono ?_;rintro e w2 ⟨rfl,hb2⟩;have HO2 := Lib.hid (H0.out.op.below hb2 (by omega));have o0 : w2.cell? ⟨W.heap.size,0,none⟩ = some (.int .i64 (q : Int)) := HO2.out.1 0 (by omega);have HL2 := Lib.hid (H0.out.look.below hb2 (by omega));have HB2 := Lib.hid (H0.out.below.trans (hb2.mono (by omega)));have hs2 : W.heap.size + 2 <= w2.heap.size := (by have := hb2.size;omega);clear hb2)
  | (go_at_call 18;refine (HAS.out _).mono ?_;rintro e w3 ⟨rfl,rfl⟩))
 obtain ⟨R,hR⟩ : ∃ R,w3.heap.size = R := ⟨_,rfl⟩
 obtain ⟨w5,hw5⟩ : ∃ w5,(w3.alloc (.cells #[.slice FA nf cf,.int .i64 0] 62)).alloc (.cells #[.pointer (some ⟨w3.heap.size,0,none⟩)] 58) = w5 := ⟨_,rfl⟩
 have hb5 : Below w3.heap.size w3 w5 := by rw [<- hw5];exact ((Below.refl _ _).alloc (Nat.le_refl _) _).alloc (by simp) _
 have hs5 : w5.heap.size = R + 2 := by rw [<- hw5,<- hR];simp
 have hP5 : w5.cell? ⟨R + 1,0,none⟩ = some (.pointer (some ⟨R,0,none⟩)) := by
  rw [<- hw5,<- hR]
  have := cell_new (w3.alloc (.cells #[.slice FA nf cf,.int .i64 0] 62)) #[.pointer (some ⟨w3.heap.size,0,none⟩)] 58 0 _ rfl
  rwa [show (w3.alloc (.cells #[.slice FA nf cf,.int .i64 0] 62)).heap.size = w3.heap.size + 1 from by simp] at this
 have hR5 : CellsAt w5 R 2 (fun i => match i with | 0 => .slice FA nf cf | _ => .int .i64 0) := by
  rw [<- hw5,<- hR]
  exact (cellsAt_new w3 #[.slice FA nf cf,.int .i64 0] _ 2 _ fun i hi => match i,hi with | 0,_ => rfl | 1,_ => rfl).below (m := w3.heap.size + 1) ((Below.refl _ _).alloc (by simp) _) (by omega)
 have hfr5 : RowAt w5 FA (fed.map encW) := (HFR.out.below HB2.out).below hb5
 have h5 : RuAt R FA nf cf fed ([] : List Nat).length w5 := by
  refine ⟨by omega,hR5.1 0 (by omega),HFL.out,hfr5,fun hne b off e => ?_,hR5.1 1 (by omega),hR5.2 1⟩
  subst e
  obtain ⟨b',off',e',hlt,_⟩ := HFR.out (by rw [List.length_map];exact hne)
  cases e'
  omega
 rw [hw5,hR]
 have HW5 := Lib.hid hw5
 have hOL := HL2.out
 have HO5 := Lib.hid (HO2.out.below hb5 (by omega))
 have HL5 := Lib.hid (HL2.out.below hb5 (by omega))
 have HB5 := Lib.hid (HB2.out.trans (hb5.mono (by omega)))
 have hRN := HRN.out
 have htold := toldL_any (ats := []) W.heap.size (R + 1) r w5 h5 (fun W' hb => hRN W.heap.size (R + 1) R W' (HO5.out.below hb (by omega)) ((hb.cell (p := ⟨R + 1,0,none⟩) (by show R + 1 < _;omega)).trans hP5) (by omega) (by omega) (h5.below hb))
 have HP5 := Lib.hid hP5
 have HT := Lib.hid htold
 clear htold hw5 hb5 hP5 hR5 hfr5 h5 hOL hRN HRN HX HFR HFL HCK HAS H0 HW0
 refine HT.out.mono ?_
 rintro e w6 ⟨he,hu6⟩
 have hb6 : Below W.heap.size W w6 := HB5.out.trans (hu6.to_below (by omega) (by omega))
 have hL6 : CellsAt w6 (W.heap.size + 1) 9 (cellsLk lookZero none 0 0 none 0 0) := HL5.out.ub hu6 (by omega) (by omega)
 have hs6 := hu6.size
 have hP6 : w6.cell? ⟨R + 1,0,none⟩ = some (.pointer (some ⟨R,0,none⟩)) := (hu6.cell (by omega) (by omega)).trans HP5.out
 have HB6 := Lib.hid hb6
 have HL6 := Lib.hid hL6
 have HP6 := Lib.hid hP6
 clear hb6 hL6 hP6 hu6 HT HB5 HL5 HP5 HO5 HW5
 rcases r with ⟨a1,l⟩ | ⟨o,l⟩
 ·obtain ⟨v,rfl,⟨NA,nn,nc,BA,bn,bc,rfl,hv⟩,hru⟩ := he
  go_wp2_with fail
  obtain ⟨E,hE⟩ : ∃ E,w6.heap.size = E := ⟨_,rfl⟩
  obtain ⟨w7,hw7⟩ : ∃ w7,w6.alloc (.cells #[.int .i64 a1.no,.int .i64 a1.kind,.int .i64 a1.links,.int .i64 a1.n,.slice NA nn nc,.slice BA bn bc] 33) = w7 := ⟨_,rfl⟩
  have hb7 : Below w6.heap.size w6 w7 := by rw [<- hw7];exact (Below.refl _ _).alloc (Nat.le_refl _) _
  have hc7 : CellsAt w7 E 6 (cellsO a1 NA nn nc BA bn bc) := by
   rw [<- hw7,<- hE]
   exact cellsAt_new _ _ _ _ _ fun i hi => match i,hi with | 0,_ => rfl | 1,_ => rfl | 2,_ => rfl | 3,_ => rfl | 4,_ => rfl | 5,_ => rfl
  rw [hw7,hE]
  clear hw7
  have h7 : LastRd R E l.length a1 NA nn nc BA bn bc w7 := ⟨(hb7.cell (p := ⟨R + 1,0,none⟩) (by show R + 1 < _;omega)).trans HP6.out,(hru.below hb7).usd,hc7⟩
  have HL7 := Lib.hid (HL6.out.below hb7 (by omega))
  have HB7 := Lib.hid (HB6.out.trans (hb7.mono (by omega)))
  have HV7 : Hid (RowsAt w5.heap.size w7 a1 NA nn nc BA bn bc) := RowsAt.below (base := w5.heap.size) (W := w6) hv hb7 (Nat.le_refl _)
  clear hv
  have hs7 : W.heap.size + 1 < w7.heap.size := by have := hb7.size;omega
  clear hb7 hc7 hru HP6 HL6 HB6
  have hmx : Tryz.prog.follows .mixedOrders = true := by kernel_rfl
  refine (wpIn_wide (n := 10)).1 ?_
  have hS0 : LastRd R E l.length a1 NA nn nc BA bn bc w7.drew := h7
  refine whichever_region (LastRd R E l.length a1 NA nn nc BA bn bc) [7,8] hmx ?_
  have HL8 : Hid (CellsAt w7.drew (W.heap.size + 1) 9 (cellsLk lookZero none 0 0 none 0 0)) := HL7.out
  have HB8 : Hid (Below W.heap.size W w7.drew) := HB7.out.drew
  have hs8 : W.heap.size + 1 < w7.drew.heap.size := hs7
  have HV8 : Hid (RowsAt w5.heap.size w7.drew a1 NA nn nc BA bn bc) := RowsAt.below HV7.out (Below.refl _ w7).drew (Nat.le_refl _)
  clear HL7 HB7 HV7
  generalize w7.drew = w8 at *
  refine whichever_take 0 (.pointer (some ⟨R,0,none⟩)) [7,8] rfl (by kernel_rfl) (fun _ _ _ h => h) hS0 (by rfl) (fun w hw => ?_) ?_
  ·obtain ⟨q1,q2,q3⟩ := hw
   clear q3
   constructor <;> go_simp
  refine whichever_take 1 (.pointer (some ⟨R,0,none⟩)) [7,8] rfl (by kernel_rfl) (fun _ _ _ h => h) hS0 (by rfl) (fun w hw => ?_) ?_
  ·obtain ⟨q1,q2,q3⟩ := hw
   clear q3
   constructor <;> go_simp
  refine whichever_take 2 (.pointer (some ⟨R,0,none⟩)) [7,8] rfl (by kernel_rfl) (fun _ _ _ h => h) hS0 (by rfl) (fun w hw => ?_) ?_
  ·obtain ⟨q1,q2,q3⟩ := hw
   clear q3
   constructor <;> go_simp
  refine whichever_take 3 (.pointer (some ⟨R,1,none⟩)) [7,8] rfl (by kernel_rfl) (fun _ _ _ h => h) hS0 (by rfl) (fun w hw => ?_) ?_
  ·obtain ⟨q1,q2,q3⟩ := hw
   clear q3
   constructor <;> go_simp
  refine whichever_take 4 (.int .i64 (l.length : Nat)) [7,8] rfl (by kernel_rfl) (fun _ _ _ h => h) hS0 (by rfl) (fun w hw => ?_) ?_
  ·obtain ⟨q1,q2,q3⟩ := hw
   clear q3
   constructor <;> go_simp
  refine whichever_take 5 (.agg #[.int .i64 (a1).no,.int .i64 (a1).kind,.int .i64 (a1).links,.int .i64 (a1).n,.slice NA nn nc,.slice BA bn bc]) [7,8] rfl (by kernel_rfl) (fun _ _ _ h => h) hS0 (by rfl) (fun w hw => ?_) ?_
  ·obtain ⟨q1,q2,q3⟩ := hw
   have e0 := q3.1 0 (by omega)
   have e1 := q3.1 1 (by omega)
   have e2 := q3.1 2 (by omega)
   have e3 := q3.1 3 (by omega)
   have e4 := q3.1 4 (by omega)
   have e5 := q3.1 5 (by omega)
   simp only [cellsO] at e0 e1 e2 e3 e4 e5
   clear q3
   constructor <;> go_simp
  clear h7
  refine whichever_next 6 rfl (by kernel_rfl) (by rfl) ?_
  go_simp
  clear hS0
  have l0 : w8.cell? ⟨W.heap.size + 1,0,none⟩ = some (.bool false) := HL8.out.1 0 (by omega)
  have l1 : w8.cell? ⟨W.heap.size + 1,1,none⟩ = some (.int .i64 0) := HL8.out.1 1 (by omega)
  have l2 : w8.cell? ⟨W.heap.size + 1,2,none⟩ = some (.int .i64 0) := HL8.out.1 2 (by omega)
  have l3 : w8.cell? ⟨W.heap.size + 1,3,none⟩ = some (.int .i64 0) := HL8.out.1 3 (by omega)
  have l4 : w8.cell? ⟨W.heap.size + 1,4,none⟩ = some (.int .i64 0) := HL8.out.1 4 (by omega)
  have l5 : w8.cell? ⟨W.heap.size + 1,5,none⟩ = some (.int .i64 0) := HL8.out.1 5 (by omega)
  have l6 : w8.cell? ⟨W.heap.size + 1,6,none⟩ = some (.int .i64 0) := HL8.out.1 6 (by omega)
  have l7 : w8.cell? ⟨W.heap.size + 1,7,none⟩ = some (.slice none 0 0) := HL8.out.1 7 (by omega)
  have l8 : w8.cell? ⟨W.heap.size + 1,8,none⟩ = some (.slice none 0 0) := HL8.out.1 8 (by omega)
  have hfr : ∀ i,w8.frozen? ⟨W.heap.size + 1,i,none⟩ = false := HL8.out.2
  refine whichever_next 7 rfl (by kernel_rfl) (by rfl) ?_
  go_simp
  refine whichever_next 8 rfl (by kernel_rfl) (by rfl) ?_
  go_simp
  refine whichever_end (by kernel_rfl) ?_
  rename_i K hK
  refine hK _ _ ?_
  go_wp2_with fail
  have HE : Hid (CellsAt (putTo w8 (W.heap.size + 1) (cellsLk ⟨false,0,l.length,a1⟩ NA nn nc BA bn bc) 9) (W.heap.size + 1) 9 (cellsLk ⟨false,0,l.length,a1⟩ NA nn nc BA bn bc)) := putTo_all HL8.out
  have HBE : Hid (Below W.heap.size W (putTo w8 (W.heap.size + 1) (cellsLk ⟨false,0,l.length,a1⟩ NA nn nc BA bn bc) 9)) := below_putTo HB8.out (by omega) 9
  have HVE : Hid (RowsAt W.heap.size (putTo w8 (W.heap.size + 1) (cellsLk ⟨false,0,l.length,a1⟩ NA nn nc BA bn bc) 9) a1 NA nn nc BA bn bc) := (HV8.out.putTo (by omega) 9).below (Below.refl _ _) (by omega)
  exact run_ret HE.out HBE.out HVE.out rfl rfl
 ·rcases o with pp | cc
  ·obtain ⟨rfl,u,hru⟩ := he
   unfold resZV
   have HL7 : Hid (CellsAt (w6.alloc (.cells #[.int .i64 0,.int .i64 0,.int .i64 0,.int .i64 0,.slice none 0 0,.slice none 0 0] 33)) (W.heap.size + 1) 9 (cellsLk lookZero none 0 0 none 0 0)) := HL6.out.below ((Below.refl _ _).alloc (Nat.le_refl _) _) (by omega)
   have l0 : (w6.alloc (.cells #[.int .i64 0,.int .i64 0,.int .i64 0,.int .i64 0,.slice none 0 0,.slice none 0 0] 33)).cell? ⟨W.heap.size + 1,0,none⟩ = some (.bool false) := HL7.out.1 0 (by omega)
   have l1 : (w6.alloc (.cells #[.int .i64 0,.int .i64 0,.int .i64 0,.int .i64 0,.slice none 0 0,.slice none 0 0] 33)).cell? ⟨W.heap.size + 1,1,none⟩ = some (.int .i64 0) := HL7.out.1 1 (by omega)
   have l2 : (w6.alloc (.cells #[.int .i64 0,.int .i64 0,.int .i64 0,.int .i64 0,.slice none 0 0,.slice none 0 0] 33)).cell? ⟨W.heap.size + 1,2,none⟩ = some (.int .i64 0) := HL7.out.1 2 (by omega)
   have l3 : (w6.alloc (.cells #[.int .i64 0,.int .i64 0,.int .i64 0,.int .i64 0,.slice none 0 0,.slice none 0 0] 33)).cell? ⟨W.heap.size + 1,3,none⟩ = some (.int .i64 0) := HL7.out.1 3 (by omega)
   have l4 : (w6.alloc (.cells #[.int .i64 0,.int .i64 0,.int .i64 0,.int .i64 0,.slice none 0 0,.slice none 0 0] 33)).cell? ⟨W.heap.size + 1,4,none⟩ = some (.int .i64 0) := HL7.out.1 4 (by omega)
   have l5 : (w6.alloc (.cells #[.int .i64 0,.int .i64 0,.int .i64 0,.int .i64 0,.slice none 0 0,.slice none 0 0] 33)).cell? ⟨W.heap.size + 1,5,none⟩ = some (.int .i64 0) := HL7.out.1 5 (by omega)
   have l6 : (w6.alloc (.cells #[.int .i64 0,.int .i64 0,.int .i64 0,.int .i64 0,.slice none 0 0,.slice none 0 0] 33)).cell? ⟨W.heap.size + 1,6,none⟩ = some (.int .i64 0) := HL7.out.1 6 (by omega)
   have l7 : (w6.alloc (.cells #[.int .i64 0,.int .i64 0,.int .i64 0,.int .i64 0,.slice none 0 0,.slice none 0 0] 33)).cell? ⟨W.heap.size + 1,7,none⟩ = some (.slice none 0 0) := HL7.out.1 7 (by omega)
   have l8 : (w6.alloc (.cells #[.int .i64 0,.int .i64 0,.int .i64 0,.int .i64 0,.slice none 0 0,.slice none 0 0] 33)).cell? ⟨W.heap.size + 1,8,none⟩ = some (.slice none 0 0) := HL7.out.1 8 (by omega)
   have hfr : ∀ i,(w6.alloc (.cells #[.int .i64 0,.int .i64 0,.int .i64 0,.int .i64 0,.slice none 0 0,.slice none 0 0] 33)).frozen? ⟨W.heap.size + 1,i,none⟩ = false := HL7.out.2
   go_wp2_with fail
   have HE : Hid (CellsAt (putTo (w6.alloc (.cells #[.int .i64 0,.int .i64 0,.int .i64 0,.int .i64 0,.slice none 0 0,.slice none 0 0] 33)) (W.heap.size + 1) (cellsLk ⟨true,pp,0,resZero⟩ none 0 0 none 0 0) 9) (W.heap.size + 1) 9 (cellsLk ⟨true,pp,0,resZero⟩ none 0 0 none 0 0)) := putTo_all HL7.out
   have HBE : Hid (Below W.heap.size W (putTo (w6.alloc (.cells #[.int .i64 0,.int .i64 0,.int .i64 0,.int .i64 0,.slice none 0 0,.slice none 0 0] 33)) (W.heap.size + 1) (cellsLk ⟨true,pp,0,resZero⟩ none 0 0 none 0 0) 9)) := below_putTo (HB6.out.alloc (by omega) _) (by omega) 9
   exact run_ret HE.out HBE.out (rowsAt_nil _ _ rfl rfl) rfl rfl
  ·obtain ⟨rfl,hru⟩ := he
   unfold resZV
   obtain ⟨a1,ha1⟩ : ∃ a1 : ResP,a1 = ⟨cc,0,0,0,[],[]⟩ := ⟨_,rfl⟩
   have hlk : lookOf (Res.stop (.err cc) l) = ⟨false,0,l.length,a1⟩ := by rw [ha1];rfl
   have hn1 : a1.names = [] := by rw [ha1]
   have hn2 : a1.bytes = [] := by rw [ha1]
   have HLK := Lib.hid hlk
   have HA1 := Lib.hid ha1
   have HN1 := Lib.hid hn1
   have HN2 := Lib.hid hn2
   clear hlk ha1 hn1 hn2
   have hways : cc = 0 ∨ (((cc : Int) != 0) = true ∧ ((cc : Int) == 0) = false) := by
    by_cases hc0 : cc = 0
    ·exact .inl hc0
    ·exact .inr ⟨by rw [bne_iff_ne];omega,by rw [beq_eq_false_iff_ne];omega⟩
   rcases hways with rfl | ⟨hcb,hcd⟩
   ·go_wp2_with fail
    obtain ⟨E,hE⟩ : ∃ E,w6.heap.size = E := ⟨_,rfl⟩
    obtain ⟨w7,hw7⟩ : ∃ w7,w6.alloc (.cells #[.int .i64 0,.int .i64 0,.int .i64 0,.int .i64 0,.slice none 0 0,.slice none 0 0] 33) = w7 := ⟨_,rfl⟩
    have hb7 : Below w6.heap.size w6 w7 := by rw [<- hw7];exact (Below.refl _ _).alloc (Nat.le_refl _) _
    have hc7 : CellsAt w7 E 6 (cellsO a1 none 0 0 none 0 0) := by
     rw [<- hw7,<- hE,HA1.out]
     exact cellsAt_new _ _ _ _ _ fun i hi => match i,hi with | 0,_ => rfl | 1,_ => rfl | 2,_ => rfl | 3,_ => rfl | 4,_ => rfl | 5,_ => rfl
    rw [hw7,hE]
    clear hw7
    have h7 : LastRd R E l.length a1 none 0 0 none 0 0 w7 := ⟨(hb7.cell (p := ⟨R + 1,0,none⟩) (by show R + 1 < _;omega)).trans HP6.out,(hru.below hb7).usd,hc7⟩
    have HL7 := Lib.hid (HL6.out.below hb7 (by omega))
    have HB7 := Lib.hid (HB6.out.trans (hb7.mono (by omega)))
    have hs7 : W.heap.size + 1 < w7.heap.size := by have := hb7.size;omega
    clear hb7 hc7 hru HP6 HL6 HB6
    have hmx : Tryz.prog.follows .mixedOrders = true := by kernel_rfl
    refine (wpIn_wide (n := 10)).1 ?_
    have hS0 : LastRd R E l.length a1 none 0 0 none 0 0 w7.drew := h7
    refine whichever_region (LastRd R E l.length a1 none 0 0 none 0 0) [7,8] hmx ?_
    have HL8 : Hid (CellsAt w7.drew (W.heap.size + 1) 9 (cellsLk lookZero none 0 0 none 0 0)) := HL7.out
    have HB8 : Hid (Below W.heap.size W w7.drew) := HB7.out.drew
    have hs8 : W.heap.size + 1 < w7.drew.heap.size := hs7
    clear HL7 HB7
    generalize w7.drew = w8 at *
    refine whichever_take 0 (.pointer (some ⟨R,0,none⟩)) [7,8] rfl (by kernel_rfl) (fun _ _ _ h => h) hS0 (by rfl) (fun w hw => ?_) ?_
    ·obtain ⟨q1,q2,q3⟩ := hw
     clear q3
     constructor <;> go_simp
    refine whichever_take 1 (.pointer (some ⟨R,0,none⟩)) [7,8] rfl (by kernel_rfl) (fun _ _ _ h => h) hS0 (by rfl) (fun w hw => ?_) ?_
    ·obtain ⟨q1,q2,q3⟩ := hw
     clear q3
     constructor <;> go_simp
    refine whichever_take 2 (.pointer (some ⟨R,0,none⟩)) [7,8] rfl (by kernel_rfl) (fun _ _ _ h => h) hS0 (by rfl) (fun w hw => ?_) ?_
    ·obtain ⟨q1,q2,q3⟩ := hw
     clear q3
     constructor <;> go_simp
    refine whichever_take 3 (.pointer (some ⟨R,1,none⟩)) [7,8] rfl (by kernel_rfl) (fun _ _ _ h => h) hS0 (by rfl) (fun w hw => ?_) ?_
    ·obtain ⟨q1,q2,q3⟩ := hw
     clear q3
     constructor <;> go_simp
    refine whichever_take 4 (.int .i64 (l.length : Nat)) [7,8] rfl (by kernel_rfl) (fun _ _ _ h => h) hS0 (by rfl) (fun w hw => ?_) ?_
    ·obtain ⟨q1,q2,q3⟩ := hw
     clear q3
     constructor <;> go_simp
    refine whichever_take 5 (.agg #[.int .i64 (a1).no,.int .i64 (a1).kind,.int .i64 (a1).links,.int .i64 (a1).n,.slice none 0 0,.slice none 0 0]) [7,8] rfl (by kernel_rfl) (fun _ _ _ h => h) hS0 (by rfl) (fun w hw => ?_) ?_
    ·obtain ⟨q1,q2,q3⟩ := hw
     have e0 := q3.1 0 (by omega)
     have e1 := q3.1 1 (by omega)
     have e2 := q3.1 2 (by omega)
     have e3 := q3.1 3 (by omega)
     have e4 := q3.1 4 (by omega)
     have e5 := q3.1 5 (by omega)
     simp only [cellsO] at e0 e1 e2 e3 e4 e5
     clear q3
     constructor <;> go_simp
    clear h7
    refine whichever_next 6 rfl (by kernel_rfl) (by rfl) ?_
    go_simp
    clear hS0
    have l0 : w8.cell? ⟨W.heap.size + 1,0,none⟩ = some (.bool false) := HL8.out.1 0 (by omega)
    have l1 : w8.cell? ⟨W.heap.size + 1,1,none⟩ = some (.int .i64 0) := HL8.out.1 1 (by omega)
    have l2 : w8.cell? ⟨W.heap.size + 1,2,none⟩ = some (.int .i64 0) := HL8.out.1 2 (by omega)
    have l3 : w8.cell? ⟨W.heap.size + 1,3,none⟩ = some (.int .i64 0) := HL8.out.1 3 (by omega)
    have l4 : w8.cell? ⟨W.heap.size + 1,4,none⟩ = some (.int .i64 0) := HL8.out.1 4 (by omega)
    have l5 : w8.cell? ⟨W.heap.size + 1,5,none⟩ = some (.int .i64 0) := HL8.out.1 5 (by omega)
    have l6 : w8.cell? ⟨W.heap.size + 1,6,none⟩ = some (.int .i64 0) := HL8.out.1 6 (by omega)
    have l7 : w8.cell? ⟨W.heap.size + 1,7,none⟩ = some (.slice none 0 0) := HL8.out.1 7 (by omega)
    have l8 : w8.cell? ⟨W.heap.size + 1,8,none⟩ = some (.slice none 0 0) := HL8.out.1 8 (by omega)
    have hfr : ∀ i,w8.frozen? ⟨W.heap.size + 1,i,none⟩ = false := HL8.out.2
    refine whichever_next 7 rfl (by kernel_rfl) (by rfl) ?_
    go_simp
    refine whichever_next 8 rfl (by kernel_rfl) (by rfl) ?_
    go_simp
    refine whichever_end (by kernel_rfl) ?_
    rename_i K hK
    refine hK _ _ ?_
    go_wp2_with fail
    rw [HLK.out]
    have HE : Hid (CellsAt (putTo w8 (W.heap.size + 1) (cellsLk ⟨false,0,l.length,a1⟩ none 0 0 none 0 0) 9) (W.heap.size + 1) 9 (cellsLk ⟨false,0,l.length,a1⟩ none 0 0 none 0 0)) := putTo_all HL8.out
    have HBE : Hid (Below W.heap.size W (putTo w8 (W.heap.size + 1) (cellsLk ⟨false,0,l.length,a1⟩ none 0 0 none 0 0) 9)) := below_putTo HB8.out (by omega) 9
    have HVE : Hid (RowsAt W.heap.size (putTo w8 (W.heap.size + 1) (cellsLk ⟨false,0,l.length,a1⟩ none 0 0 none 0 0) 9) a1 none 0 0 none 0 0) := rowsAt_nil _ _ HN1.out HN2.out
    exact run_ret HE.out HBE.out HVE.out rfl rfl
   ·go_wp2_with fail
    obtain ⟨E,hE⟩ : ∃ E,w6.heap.size = E := ⟨_,rfl⟩
    obtain ⟨w7,hw7⟩ : ∃ w7,w6.alloc (.cells #[.int .i64 cc,.int .i64 0,.int .i64 0,.int .i64 0,.slice none 0 0,.slice none 0 0] 33) = w7 := ⟨_,rfl⟩
    have hb7 : Below w6.heap.size w6 w7 := by rw [<- hw7];exact (Below.refl _ _).alloc (Nat.le_refl _) _
    have hc7 : CellsAt w7 E 6 (cellsO a1 none 0 0 none 0 0) := by
     rw [<- hw7,<- hE,HA1.out]
     exact cellsAt_new _ _ _ _ _ fun i hi => match i,hi with | 0,_ => rfl | 1,_ => rfl | 2,_ => rfl | 3,_ => rfl | 4,_ => rfl | 5,_ => rfl
    rw [hw7,hE]
    clear hw7
    have h7 : LastRd R E l.length a1 none 0 0 none 0 0 w7 := ⟨(hb7.cell (p := ⟨R + 1,0,none⟩) (by show R + 1 < _;omega)).trans HP6.out,(hru.below hb7).usd,hc7⟩
    have HL7 := Lib.hid (HL6.out.below hb7 (by omega))
    have HB7 := Lib.hid (HB6.out.trans (hb7.mono (by omega)))
    have hs7 : W.heap.size + 1 < w7.heap.size := by have := hb7.size;omega
    clear hb7 hc7 hru HP6 HL6 HB6
    have hmx : Tryz.prog.follows .mixedOrders = true := by kernel_rfl
    refine (wpIn_wide (n := 10)).1 ?_
    have hS0 : LastRd R E l.length a1 none 0 0 none 0 0 w7.drew := h7
    refine whichever_region (LastRd R E l.length a1 none 0 0 none 0 0) [7,8] hmx ?_
    have HL8 : Hid (CellsAt w7.drew (W.heap.size + 1) 9 (cellsLk lookZero none 0 0 none 0 0)) := HL7.out
    have HB8 : Hid (Below W.heap.size W w7.drew) := HB7.out.drew
    have hs8 : W.heap.size + 1 < w7.drew.heap.size := hs7
    clear HL7 HB7
    generalize w7.drew = w8 at *
    refine whichever_take 0 (.pointer (some ⟨R,0,none⟩)) [7,8] rfl (by kernel_rfl) (fun _ _ _ h => h) hS0 (by rfl) (fun w hw => ?_) ?_
    ·obtain ⟨q1,q2,q3⟩ := hw
     clear q3
     constructor <;> go_simp
    refine whichever_take 1 (.pointer (some ⟨R,0,none⟩)) [7,8] rfl (by kernel_rfl) (fun _ _ _ h => h) hS0 (by rfl) (fun w hw => ?_) ?_
    ·obtain ⟨q1,q2,q3⟩ := hw
     clear q3
     constructor <;> go_simp
    refine whichever_take 2 (.pointer (some ⟨R,0,none⟩)) [7,8] rfl (by kernel_rfl) (fun _ _ _ h => h) hS0 (by rfl) (fun w hw => ?_) ?_
    ·obtain ⟨q1,q2,q3⟩ := hw
     clear q3
     constructor <;> go_simp
    refine whichever_take 3 (.pointer (some ⟨R,1,none⟩)) [7,8] rfl (by kernel_rfl) (fun _ _ _ h => h) hS0 (by rfl) (fun w hw => ?_) ?_
    ·obtain ⟨q1,q2,q3⟩ := hw
     clear q3
     constructor <;> go_simp
    refine whichever_take 4 (.int .i64 (l.length : Nat)) [7,8] rfl (by kernel_rfl) (fun _ _ _ h => h) hS0 (by rfl) (fun w hw => ?_) ?_
    ·obtain ⟨q1,q2,q3⟩ := hw
     clear q3
     constructor <;> go_simp
    refine whichever_take 5 (.agg #[.int .i64 (a1).no,.int .i64 (a1).kind,.int .i64 (a1).links,.int .i64 (a1).n,.slice none 0 0,.slice none 0 0]) [7,8] rfl (by kernel_rfl) (fun _ _ _ h => h) hS0 (by rfl) (fun w hw => ?_) ?_
    ·obtain ⟨q1,q2,q3⟩ := hw
     have e0 := q3.1 0 (by omega)
     have e1 := q3.1 1 (by omega)
     have e2 := q3.1 2 (by omega)
     have e3 := q3.1 3 (by omega)
     have e4 := q3.1 4 (by omega)
     have e5 := q3.1 5 (by omega)
     simp only [cellsO] at e0 e1 e2 e3 e4 e5
     clear q3
     constructor <;> go_simp
    clear h7
    refine whichever_next 6 rfl (by kernel_rfl) (by rfl) ?_
    go_simp
    clear hS0
    have l0 : w8.cell? ⟨W.heap.size + 1,0,none⟩ = some (.bool false) := HL8.out.1 0 (by omega)
    have l1 : w8.cell? ⟨W.heap.size + 1,1,none⟩ = some (.int .i64 0) := HL8.out.1 1 (by omega)
    have l2 : w8.cell? ⟨W.heap.size + 1,2,none⟩ = some (.int .i64 0) := HL8.out.1 2 (by omega)
    have l3 : w8.cell? ⟨W.heap.size + 1,3,none⟩ = some (.int .i64 0) := HL8.out.1 3 (by omega)
    have l4 : w8.cell? ⟨W.heap.size + 1,4,none⟩ = some (.int .i64 0) := HL8.out.1 4 (by omega)
    have l5 : w8.cell? ⟨W.heap.size + 1,5,none⟩ = some (.int .i64 0) := HL8.out.1 5 (by omega)
    have l6 : w8.cell? ⟨W.heap.size + 1,6,none⟩ = some (.int .i64 0) := HL8.out.1 6 (by omega)
    have l7 : w8.cell? ⟨W.heap.size + 1,7,none⟩ = some (.slice none 0 0) := HL8.out.1 7 (by omega)
    have l8 : w8.cell? ⟨W.heap.size + 1,8,none⟩ = some (.slice none 0 0) := HL8.out.1 8 (by omega)
    have hfr : ∀ i,w8.frozen? ⟨W.heap.size + 1,i,none⟩ = false := HL8.out.2
    refine whichever_next 7 rfl (by kernel_rfl) (by rfl) ?_
    go_simp
    refine whichever_next 8 rfl (by kernel_rfl) (by rfl) ?_
    go_simp
    refine whichever_end (by kernel_rfl) ?_
    rename_i K hK
    refine hK _ _ ?_
    go_wp2_with fail
    rw [HLK.out]
    have HE : Hid (CellsAt (putTo w8 (W.heap.size + 1) (cellsLk ⟨false,0,l.length,a1⟩ none 0 0 none 0 0) 9) (W.heap.size + 1) 9 (cellsLk ⟨false,0,l.length,a1⟩ none 0 0 none 0 0)) := putTo_all HL8.out
    have HBE : Hid (Below W.heap.size W (putTo w8 (W.heap.size + 1) (cellsLk ⟨false,0,l.length,a1⟩ none 0 0 none 0 0) 9)) := below_putTo HB8.out (by omega) 9
    have HVE : Hid (RowsAt W.heap.size (putTo w8 (W.heap.size + 1) (cellsLk ⟨false,0,l.length,a1⟩ none 0 0 none 0 0) 9) a1 none 0 0 none 0 0) := rowsAt_nil _ _ HN1.out HN2.out
    exact run_ret HE.out HBE.out HVE.out rfl rfl
end
section
open Go.RowKit
attribute [local go_sem] Oper.semAt_some
theorem ofBytes_inj {u v : List UInt8} (h : ofBytes u = ofBytes v) : u = v := by
 have := congrArg bytesOf h
 simpa [bytesOf_ofBytes] using this
theorem toList_beq (u v : List UInt8) : ((ofBytes u).toList == (ofBytes v).toList) = decide (u = v) := by
 rw [Bool.eq_iff_iff,beq_iff_eq,decide_eq_true_iff]
 exact ⟨fun h => ofBytes_inj (toList_inj h),fun h => by rw [h]⟩
theorem conv_row {l : List UInt8} {A : Option Addr} {n c : Nat} {W : World} (hl : l.length = n) (h : RowAt W A (l.map encB)) : (convert 26 9 (.slice A n c)).run Tryz.prog W = .ok (.string (ofBytes l)) W := by
 cases l with
 | nil =>
  subst hl
  cases A with
  | none => exact run_convert_bytes_nil (P := Tryz.prog) W _ 5 Tryz.underlyingBytes Tryz.underlyingByte 0 c _ Tryz.underlyingStr
  | some a => exact run_convert_bytes_back (P := Tryz.prog) W _ _ 5 a c [] Tryz.underlyingBytes Tryz.underlyingByte Tryz.underlyingStr (fun j hj => absurd hj (by simp))
 | cons x l =>
  obtain ⟨g,off,rfl,hgl,hgc⟩ := h (by simp)
  have := run_convert_bytes_back (P := Tryz.prog) W 26 9 5 ⟨g,off,none⟩ c (x :: l) Tryz.underlyingBytes Tryz.underlyingByte Tryz.underlyingStr (fun j hj => by
   rw [plain_add]
   refine hgc j _ ?_
   rw [List.getElem?_map,List.getElem?_eq_getElem hj];rfl)
  rw [hl] at this
  exact this
def cellsO' (a b c d : Int) (NA : Option Addr) (nn nc : Nat) (BA : Option Addr) (bn bc : Nat) : Nat -> Value
 | 0 => .int .i64 a
 | 1 => .int .i64 b
 | 2 => .int .i64 c
 | 3 => .int .i64 d
 | 4 => .slice NA nn nc
 | _ => .slice BA bn bc
def resV (a b c d : Int) (NA : Option Addr) (nn nc : Nat) (BA : Option Addr) (bn bc : Nat) : Value := .agg #[.int .i64 a,.int .i64 b,.int .i64 c,.int .i64 d,.slice NA nn nc,.slice BA bn bc]
def eqR (a0 a1 a2 a3 b0 b1 b2 b3 : Int) (xs ys : List ByteArray) (u v : List UInt8) : Bool := (a0 == b0) && (a1 == b1) && (a2 == b2) && (a3 == b3) && eqL6 xs ys && decide (u = v)
set_option maxRecDepth 100000 in
set_option maxHeartbeats 4000000 in
theorem requal_any (a0 a1 a2 a3 b0 b1 b2 b3 : Int) (xs ys : List ByteArray) (u v : List UInt8) (NA NB BA BB : Option Addr) (nn nc bn bc mn mc cn cc : Nat) (W : World) (h1 : xs.length = nn) (h2 : ys.length = mn) (h3 : u.length = bn) (h4 : v.length = cn) (hm : nn <= maxLen)
  (r1 : RowAt W NA (xs.map .string)) (r2 : RowAt W NB (ys.map .string)) (r3 : RowAt W BA (u.map encB)) (r4 : RowAt W BB (v.map encB)) :
  Calls Tryz.prog 25 #[resV a0 a1 a2 a3 NA nn nc BA bn bc,resV b0 b1 b2 b3 NB mn mc BB cn cc] W fun e W' => e = .returned (.bool (eqR a0 a1 a2 a3 b0 b1 b2 b3 xs ys u v)) ∧ Below W.heap.size W W' := by
 obtain ⟨W0,hW0⟩ : ∃ W0,(W.alloc (.cells #[.int .i64 a0,.int .i64 a1,.int .i64 a2,.int .i64 a3,.slice NA nn nc,.slice BA bn bc] 33)).alloc (.cells #[.int .i64 b0,.int .i64 b1,.int .i64 b2,.int .i64 b3,.slice NB mn mc,.slice BB cn cc] 33) = W0 := ⟨_,rfl⟩
 have hb0 : Below W.heap.size W W0 := by rw [<- hW0];exact ((Below.refl _ _).alloc (Nat.le_refl _) _).alloc (by simp) _
 have HT := Lib.hid (texts_any xs ys NA NB nn mn nc mc W0 h1 h2 hm (r1.below hb0) (r2.below hb0))
 have HU := Lib.hid (fun W' (hb : Below W0.heap.size W0 W') => conv_row (c := bc) h3 ((r3.below hb0).below hb))
 have HV := Lib.hid (fun W' (hb : Below W0.heap.size W0 W') => conv_row (c := cc) h4 ((r4.below hb0).below hb))
 have HUV := Lib.hid (toList_beq u v)
 have hs0 : W0.heap.size = W.heap.size + 2 := by rw [<- hW0];simp
 have hA5 : W0.cell? ⟨W.heap.size,5,none⟩ = some (.slice BA bn bc) := by
  rw [<- hW0]
  have := (cellsAt_new W #[.int .i64 a0,.int .i64 a1,.int .i64 a2,.int .i64 a3,.slice NA nn nc,.slice BA bn bc] 33 6 (cellsO' a0 a1 a2 a3 NA nn nc BA bn bc) fun i hi => match i,hi with | 0,_ => rfl | 1,_ => rfl | 2,_ => rfl | 3,_ => rfl | 4,_ => rfl | 5,_ => rfl).below (m := W.heap.size + 1) (W' := (W.alloc (.cells #[.int .i64 a0,.int .i64 a1,.int .i64 a2,.int .i64 a3,.slice NA nn nc,.slice BA bn bc] 33)).alloc (.cells #[.int .i64 b0,.int .i64 b1,.int .i64 b2,.int .i64 b3,.slice NB mn mc,.slice BB cn cc] 33)) ((Below.refl _ _).alloc (by simp) _) (by omega)
  exact this.1 5 (by omega)
 have hB5 : W0.cell? ⟨W.heap.size + 1,5,none⟩ = some (.slice BB cn cc) := by
  rw [<- hW0]
  have := cellsAt_new (W.alloc (.cells #[.int .i64 a0,.int .i64 a1,.int .i64 a2,.int .i64 a3,.slice NA nn nc,.slice BA bn bc] 33)) #[.int .i64 b0,.int .i64 b1,.int .i64 b2,.int .i64 b3,.slice NB mn mc,.slice BB cn cc] 33 6 (cellsO' b0 b1 b2 b3 NB mn mc BB cn cc) fun i hi => match i,hi with | 0,_ => rfl | 1,_ => rfl | 2,_ => rfl | 3,_ => rfl | 4,_ => rfl | 5,_ => rfl
  rw [show (W.alloc (.cells #[.int .i64 a0,.int .i64 a1,.int .i64 a2,.int .i64 a3,.slice NA nn nc,.slice BA bn bc] 33)).heap.size = W.heap.size + 1 from by simp] at this
  exact this.1 5 (by omega)
 have HA5 := Lib.hid hA5
 have HB5 := Lib.hid hB5
 have HW0 := Lib.hid hW0
 have HB0 := Lib.hid hb0
 clear hA5 hB5 hW0 hb0 r1 r2 r3 r4 h1 h2 h3 h4
 unfold eqR
 generalize eqL6 xs ys = t at *
 generalize decide (u = v) = s at *
 generalize ofBytes u = U at *
 generalize ofBytes v = V at *
 unfold resV
 have step : ∀ (P : Prop),(a0 == b0) = false ∨ ((a0 == b0) = true ∧ (a1 == b1) = false) ∨ ((a0 == b0) = true ∧ (a1 == b1) = true ∧ (a2 == b2) = false) ∨ ((a0 == b0) = true ∧ (a1 == b1) = true ∧ (a2 == b2) = true ∧ (a3 == b3) = false) ∨ ((a0 == b0) = true ∧ (a1 == b1) = true ∧ (a2 == b2) = true ∧ (a3 == b3) = true) := fun _ => by
  cases a0 == b0 <;> cases a1 == b1 <;> cases a2 == b2 <;> cases a3 == b3 <;> simp
 have HBW : Hid (Below W.heap.size W W0) := HB0
 rcases step True with g0 | ⟨g0,g1⟩ | ⟨g0,g1,g2⟩ | ⟨g0,g1,g2,g3⟩ | ⟨g0,g1,g2,g3⟩
 ·rw [g0]
  go_enter Tryz.func25,Tryz.ntmps25
  go_wp2_with fail
  go_ret
  rw [HW0.out]
  exact ⟨rfl,HB0.out⟩
 ·rw [g0,g1]
  go_enter Tryz.func25,Tryz.ntmps25
  go_wp2_with fail
  go_ret
  rw [HW0.out]
  exact ⟨rfl,HB0.out⟩
 ·rw [g0,g1,g2]
  go_enter Tryz.func25,Tryz.ntmps25
  go_wp2_with fail
  go_ret
  rw [HW0.out]
  exact ⟨rfl,HB0.out⟩
 ·rw [g0,g1,g2,g3]
  go_enter Tryz.func25,Tryz.ntmps25
  go_wp2_with fail
  go_ret
  rw [HW0.out]
  exact ⟨rfl,HB0.out⟩
 ·rw [g0,g1,g2,g3]
  cases t with
  | false =>
   go_enter Tryz.func25,Tryz.ntmps25
   go_wp2_with (go_at_call 45;rw [HW0.out];refine HT.out.mono ?_;rintro e w2 ⟨rfl,hb2⟩)
   go_ret
   exact ⟨rfl,HB0.out.trans (hb2.mono (by omega))⟩
  | true =>
   go_enter Tryz.func25,Tryz.ntmps25
   go_wp2_with (go_at_call 45;rw [HW0.out];refine HT.out.mono ?_;rintro e w2 ⟨rfl,hb2⟩;have q1 : w2.cell? ⟨W.heap.size,5,none⟩ = some (.slice BA bn bc) := (hb2.cell (p := ⟨W.heap.size,5,none⟩) (by show W.heap.size < _;omega)).trans HA5.out;have q2 : w2.cell? ⟨W.heap.size + 1,5,none⟩ = some (.slice BB cn cc) := (hb2.cell (p := ⟨W.heap.size + 1,5,none⟩) (by show W.heap.size + 1 < _;omega)).trans HB5.out;have q3 := HU.out _ hb2;have q4 := HV.out _ hb2;have q5 := HUV.out)
   go_ret
   exact ⟨by simp,HB0.out.trans (hb2.mono (by omega))⟩
variable {FA : Option Addr} {nf cf : Nat} {fed : List Nat}
theorem lookRun_any (k : Int) (p d : ByteArray) (a n : Int) (A : Option Addr) (m c : Nat) (bs : List UInt8) (W : World) (hk64 : -9223372036854775808 <= k ∧ k < 9223372036854775808) (hp : p.size < 4294967281) (hd : d.size < 4294967281) (hl : bs.length = m) (hm : m <= maxLen) (hrow : RowAt W A (bs.map encB)) (ha : a < 9223372036854775808) (hn : n < 9223372036854775808)
  (hfl : fed.length = nf) (hx64 : ∀ x ∈ fed,x < 18446744073709551616) (hfrow : RowAt W FA (fed.map encW)) :
  Calls Tryz.prog 8 #[opV k p d a n A m c,.slice FA nf cf] W (LookR (lookN k (bytesOf p) (bytesOf d) a n m fed) W) := by
 by_cases hz : refuseN k (bytesOf p) (bytesOf d) a n m = 0
 ·by_cases hf : 20000 < fed.length
  ·rw [lookN_long hz hf]
   exact lookRun_no k p d a n A m c bs W hk64 hp hd hl hm hrow ha hn 3 (.inr ⟨hz,by omega,rfl⟩)
  ·rw [lookN_fine hz (by omega)]
   have hk : 0 <= k := by
    unfold refuseN at hz
    by_cases h1 : k < 1 ∨ 3 < k
    ·rw [if_pos h1] at hz;cases hz
    ·omega
   obtain ⟨q,rfl⟩ : ∃ q : Nat,k = q := ⟨k.toNat,by omega⟩
   exact lookRun_yes q p d a n A m c bs W hp hd hl hm hrow ha hn hfl (by omega) hx64 hfrow hz
 ·rw [lookN_refused fed hz]
  exact lookRun_no k p d a n A m c bs W hk64 hp hd hl hm hrow ha hn _ (.inl ⟨hz,rfl⟩)
end
section
open Go.RowKit
attribute [local go_sem] Oper.semAt_some
theorem num22_any (n : Int) (W : World) : Calls Tryz.prog 11 #[.int .i64 n] W fun e W' => e = .returned (.int .i64 n) ∧ W' = W := by
 go_enter Tryz.func11,Tryz.ntmps11
 go_wp2
 go_ret
 exact ⟨rfl,rfl⟩
theorem rows_text {r : ResP} {A : Option Addr} {W : World} (h : RowAt W A (r.names.map encT)) : RowAt W A ((r.names.map ofBytes).map .string) := by
 rw [List.map_map];exact h
set_option maxRecDepth 100000 in
set_option maxHeartbeats 4000000 in
theorem same22_any (l : LookP) (NA NB BA BB : Option Addr) (nn nc bn bc mn mc cn cc b1 b2 : Nat) (W : World) (h1 : RowsAt b1 W l.res NA nn nc BA bn bc) (h2 : RowsAt b2 W l.res NB mn mc BB cn cc) :
  Calls Tryz.prog 10 #[lookV l NA nn nc BA bn bc,lookV l NB mn mc BB cn cc] W fun e W' => e = .returned (.bool true) ∧ Below W.heap.size W W' := by
 obtain ⟨W0,hW0⟩ : ∃ W0,(W.alloc (.cells #[.bool l.more,.int .i64 l.at_,.int .i64 l.used,.int .i64 l.res.no,.int .i64 l.res.kind,.int .i64 l.res.links,.int .i64 l.res.n,.slice NA nn nc,.slice BA bn bc] 35)).alloc (.cells #[.bool l.more,.int .i64 l.at_,.int .i64 l.used,.int .i64 l.res.no,.int .i64 l.res.kind,.int .i64 l.res.links,.int .i64 l.res.n,.slice NB mn mc,.slice BB cn cc] 35) = W0 := ⟨_,rfl⟩
 have hb0 : Below W.heap.size W W0 := by rw [<- hW0];exact ((Below.refl _ _).alloc (Nat.le_refl _) _).alloc (by simp) _
 obtain ⟨a1,a2,a3,a4,a5,a6,a7,a8,a9,a10⟩ := h1.below hb0 (Nat.le_refl _)
 obtain ⟨c1,c2,c3,c4,c5,c6,c7,c8,c9,c10⟩ := h2.below hb0 (Nat.le_refl _)
 have he := requal_any l.res.no l.res.kind l.res.links l.res.n l.res.no l.res.kind l.res.links l.res.n (l.res.names.map ofBytes) (l.res.names.map ofBytes) l.res.bytes l.res.bytes NA NB BA BB nn nc bn bc mn mc cn cc W0 (by rw [List.length_map];exact a1) (by rw [List.length_map];exact c1) a2 c2 (Nat.le_trans a3 a6) (rows_text a7) (rows_text c7) a8 c8
 rw [show eqR l.res.no l.res.kind l.res.links l.res.n l.res.no l.res.kind l.res.links l.res.n (l.res.names.map ofBytes) (l.res.names.map ofBytes) l.res.bytes l.res.bytes = true by simp [eqR,eqL6]] at he
 unfold resV at he
 have HE := Lib.hid he
 have HW0 := Lib.hid hW0
 have HB0 := Lib.hid hb0
 have hs0 : W0.heap.size = W.heap.size + 2 := by rw [<- hW0];simp
 clear he hW0 hb0 a1 a2 a3 a4 a5 a6 a7 a8 a9 a10 c1 c2 c3 c4 c5 c6 c7 c8 c9 c10 h1 h2
 unfold lookV
 generalize l.more = lm at *
 go_enter Tryz.func10,Tryz.ntmps10
 cases lm
 all_goals
  go_wp2_with (go_at_call 25;rw [HW0.out];refine HE.out.mono ?_;rintro e w2 ⟨rfl,hb2⟩)
  go_ret
  exact ⟨rfl,HB0.out.trans (hb2.mono (by omega))⟩
variable {FA : Option Addr} {nf cf : Nat} {fed : List Nat}
set_option maxRecDepth 100000 in
set_option maxHeartbeats 4000000 in
theorem run22_any (k : Int) (l : LookP) (v : Value) (W : World) (hk : -9223372036854775808 <= k ∧ k < 9223372036854775808) (hv : v = lookV l none 0 0 none 0 0) (hn1 : l.res.names = []) (hn2 : l.res.bytes = [])
  (hfl : fed.length = nf) (hx64 : ∀ x ∈ fed,x < 18446744073709551616) (hfrow : RowAt W FA (fed.map encW)) (hl : lookN k [47] [] 0 0 0 fed = (l,0)) :
  Calls Tryz.prog 16 #[.int .i64 k,v,.slice FA nf cf] W fun e W' => e = .returned (.bool true) ∧ Below W.heap.size W W' := by
 subst hv
 obtain ⟨W0,hW0⟩ : ∃ W0,W.alloc (.cells #[.bool l.more,.int .i64 l.at_,.int .i64 l.used,.int .i64 l.res.no,.int .i64 l.res.kind,.int .i64 l.res.links,.int .i64 l.res.n,.slice none 0 0,.slice none 0 0] 35) = W0 := ⟨_,rfl⟩
 have hb0 : Below W.heap.size W W0 := by rw [<- hW0];exact (Below.refl _ _).alloc (Nat.le_refl _) _
 have hs0 : W0.heap.size = W.heap.size + 1 := by rw [<- hW0];simp
 have hC0 : CellsAt W0 W.heap.size 9 (cellsLk l none 0 0 none 0 0) := by
  rw [<- hW0]
  exact cellsAt_new _ _ _ _ _ fun i hi => match i,hi with | 0,_ => rfl | 1,_ => rfl | 2,_ => rfl | 3,_ => rfl | 4,_ => rfl | 5,_ => rfl | 6,_ => rfl | 7,_ => rfl | 8,_ => rfl
 have hr := lookRun_any (cf := cf) k ⟨#[47]⟩ ⟨#[]⟩ 0 0 none 0 0 [] W0 hk (by decide) (by decide) rfl (by unfold maxLen;omega) RowAt.nil (by omega) (by omega) hfl hx64 (hfrow.below hb0)
 rw [show lookN k (bytesOf ⟨#[47]⟩) (bytesOf ⟨#[]⟩) 0 0 (0 : Nat) fed = (l,0) from hl] at hr
 have HS := Lib.hid (fun NA nn nc BA bn bc b1 W h1 => same22_any l NA none BA none nn nc bn bc 0 0 0 0 b1 0 W h1 (rowsAt_nil 0 W hn1 hn2))
 unfold opV at hr
 have HR := Lib.hid hr
 have HW0 := Lib.hid hW0
 have HB0 := Lib.hid hb0
 have HC0 := Lib.hid hC0
 clear hr hW0 hb0 hfrow hl hC0 hfl hx64
 unfold lookV at HS ⊢
 go_enter Tryz.func16,Tryz.ntmps16
 go_wp2_with fail
 rw [HW0.out]
 refine HR.out.mono ?_
 rintro e w2 ⟨⟨NA,nn,nc,BA,bn,bc,rfl,hrow⟩,hb2⟩
 obtain ⟨w3,hw3⟩ : ∃ w3,w2.alloc (.cells #[.bool l.more,.int .i64 l.at_,.int .i64 l.used,.int .i64 l.res.no,.int .i64 l.res.kind,.int .i64 l.res.links,.int .i64 l.res.n,.slice NA nn nc,.slice BA bn bc] 35) = w3 := ⟨_,rfl⟩
 have hb3 : Below w2.heap.size w2 w3 := by rw [<- hw3];exact (Below.refl _ _).alloc (Nat.le_refl _) _
 have hC3 : CellsAt w3 W.heap.size 9 (cellsLk l none 0 0 none 0 0) := (HC0.out.below hb2 (by omega)).below hb3 (by have := hb2.size;omega)
 have hrow3 : RowsAt W0.heap.size w3 l.res NA nn nc BA bn bc := hrow.below hb3 (Nat.le_refl _)
 have hB3 : Below W.heap.size W w3 := HB0.out.trans ((hb2.trans (hb3.mono hb2.size)).mono (by omega))
 have HD := Lib.hid (HS.out NA nn nc BA bn bc _ w3 hrow3)
 have HB3 := Lib.hid hB3
 have HC3 := Lib.hid hC3
 unfold lookV
 clear hb2 hb3 hC3 hrow3 hB3 hrow HS HR
 have g0 : w3.cell? ⟨W.heap.size,0,none⟩ = some (.bool l.more) := HC3.out.1 0 (by omega)
 have g1 : w3.cell? ⟨W.heap.size,1,none⟩ = some (.int .i64 l.at_) := HC3.out.1 1 (by omega)
 have g2 : w3.cell? ⟨W.heap.size,2,none⟩ = some (.int .i64 l.used) := HC3.out.1 2 (by omega)
 have g3 : w3.cell? ⟨W.heap.size,3,none⟩ = some (.int .i64 l.res.no) := HC3.out.1 3 (by omega)
 have g4 : w3.cell? ⟨W.heap.size,4,none⟩ = some (.int .i64 l.res.kind) := HC3.out.1 4 (by omega)
 have g5 : w3.cell? ⟨W.heap.size,5,none⟩ = some (.int .i64 l.res.links) := HC3.out.1 5 (by omega)
 have g6 : w3.cell? ⟨W.heap.size,6,none⟩ = some (.int .i64 l.res.n) := HC3.out.1 6 (by omega)
 have g7 : w3.cell? ⟨W.heap.size,7,none⟩ = some (.slice none 0 0) := HC3.out.1 7 (by omega)
 have g8 : w3.cell? ⟨W.heap.size,8,none⟩ = some (.slice none 0 0) := HC3.out.1 8 (by omega)
 rw [<- hw3] at g0 g1 g2 g3 g4 g5 g6 g7 g8
 have HW3 := Lib.hid hw3
 clear hw3
 dsimp only
 go_wp2_with (first
  | (go_at_call 10;rw [HW3.out];refine HD.out.mono ?_;rintro e w4 ⟨rfl,hb4⟩)
  | (go_at_call 11;refine (num22_any _ _).mono ?_;rintro e w9 ⟨rfl,rfl⟩))
 go_ret
 exact ⟨rfl,HB3.out.trans (hb4.mono HB3.out.size)⟩
theorem row22_0 : lookN 4 [47,97] [] 0 0 0 [] = (lookZero,2) := by kernel_rfl
theorem row22_1 : lookN 1 [47] [] 0 0 0 [4,258,5] = (⟨true,40,0,resZero⟩,0) := by kernel_rfl
theorem row22_2 : lookN 1 [47] [] 0 0 0 [4,258,5,0,0,0,0,0,0,9,0] = (⟨false,0,11,⟨0,2,1,1,[],[]⟩⟩,0) := by kernel_rfl
theorem row22_3 : lookN 3 [47] [] 0 0 0 [4,258,5] = (⟨false,0,3,⟨204,0,0,0,[],[]⟩⟩,0) := by kernel_rfl
theorem row22_4 : lookN 1 [47] [] 0 0 0 [0] = (⟨false,0,1,⟨300,0,0,0,[],[]⟩⟩,0) := by kernel_rfl
end
section
open Go.RowKit
attribute [local go_sem] Oper.semAt_some
set_option maxRecDepth 100000 in
set_option maxHeartbeats 8000000 in
theorem works22_any (W : World) : Calls Tryz.prog 7 #[] W fun e W' => e = .returned (.bool true) ∧ Below W.heap.size W W' := by
 have h0 := lookRun_any (cf := 0) (FA := none) (fed := []) (nf := 0) 4 ⟨#[47,97]⟩ ⟨#[]⟩ 0 0 none 0 0 [] W (by omega) (by decide) (by decide) rfl (by unfold maxLen;omega) RowAt.nil (by omega) (by omega) rfl (by simp) RowAt.nil
 rw [show lookN 4 (bytesOf ⟨#[47,97]⟩) (bytesOf ⟨#[]⟩) 0 0 (0 : Nat) [] = (lookZero,2) from row22_0] at h0
 unfold opV at h0
 have H0 := Lib.hid h0
 clear h0
 go_enter Tryz.func7,Tryz.ntmps7
 go_wp2_with fail
 refine H0.out.mono ?_
 rintro e w1 ⟨⟨NA,nn,nc,BA,bn,bc,rfl,hrow⟩,hb1⟩
 have HB1 := Lib.hid hb1
 have hs1 := hb1.size
 clear hb1 hrow H0
 unfold lookV
 dsimp only [lookZero,resZero]
 go_wp2_with (go_at_call 11;refine (num22_any _ _).mono ?_;rintro e w9 ⟨rfl,rfl⟩)
 obtain ⟨w2,hw2⟩ : ∃ w2,w1.alloc (.cells #[.bool false,.int .i64 0,.int .i64 0,.int .i64 0,.int .i64 0,.int .i64 0,.int .i64 0,.slice NA nn nc,.slice BA bn bc] 35) = w2 := ⟨_,rfl⟩
 have HB2 : Hid (Below W.heap.size W w2) := by rw [Hid,<- hw2];exact HB1.out.alloc hs1 _
 have hz : w1.heap.size + 1 = w2.heap.size := by rw [<- hw2];simp
 rw [hw2,hz]
 clear hw2 hz HB1 hs1
 have hr := rowAt_fresh w2 #[.int .u64 4,.int .u64 258,.int .u64 5] 24 ([4,258,5].map encW) rfl
 refine (run22_any (nf := 3) (cf := 3) (fed := [4,258,5]) 1 ⟨true,40,0,resZero⟩ _ _ (by omega) rfl rfl rfl rfl (by decide) hr row22_1).mono ?_
 rintro e w3 ⟨rfl,hb⟩
 have HB3 : Hid (Below W.heap.size W w3) := (HB2.out.alloc HB2.out.size _).trans (hb.mono (by have := HB2.out.size;simp;omega))
 clear hb hr
 go_wp2_with fail
 have hr := rowAt_fresh w3 #[.int .u64 4,.int .u64 258,.int .u64 5,.int .u64 0,.int .u64 0,.int .u64 0,.int .u64 0,.int .u64 0,.int .u64 0,.int .u64 9,.int .u64 0] 24 ([4,258,5,0,0,0,0,0,0,9,0].map encW) rfl
 refine (run22_any (nf := 11) (cf := 11) (fed := [4,258,5,0,0,0,0,0,0,9,0]) 1 ⟨false,0,11,⟨0,2,1,1,[],[]⟩⟩ _ _ (by omega) rfl rfl rfl rfl (by decide) hr row22_2).mono ?_
 rintro e w4 ⟨rfl,hb⟩
 have HB4 : Hid (Below W.heap.size W w4) := (HB3.out.alloc HB3.out.size _).trans (hb.mono (by have := HB3.out.size;simp;omega))
 clear hb hr
 go_wp2_with fail
 have hr := rowAt_fresh w4 #[.int .u64 4,.int .u64 258,.int .u64 5] 24 ([4,258,5].map encW) rfl
 refine (run22_any (nf := 3) (cf := 3) (fed := [4,258,5]) 3 ⟨false,0,3,⟨204,0,0,0,[],[]⟩⟩ _ _ (by omega) rfl rfl rfl rfl (by decide) hr row22_3).mono ?_
 rintro e w5 ⟨rfl,hb⟩
 have HB5 : Hid (Below W.heap.size W w5) := (HB4.out.alloc HB4.out.size _).trans (hb.mono (by have := HB4.out.size;simp;omega))
 clear hb hr
 go_wp2_with fail
 have hr := rowAt_fresh w5 #[.int .u64 0] 24 ([0].map encW) rfl
 refine (run22_any (nf := 1) (cf := 1) (fed := [0]) 1 ⟨false,0,1,⟨300,0,0,0,[],[]⟩⟩ _ _ (by omega) rfl rfl rfl rfl (by decide) hr row22_4).mono ?_
 rintro e w6 ⟨rfl,hb⟩
 have HB6 : Hid (Below W.heap.size W w6) := (HB5.out.alloc HB5.out.size _).trans (hb.mono (by have := HB5.out.size;simp;omega))
 clear hb hr
 go_wp2_with fail
 go_ret
 exact ⟨rfl,HB6.out⟩
end
section
open Go.RowKit
attribute [local go_sem] Oper.semAt_some
def OpC (X : Nat) (k : Int) (p d : ByteArray) (a n : Int) (A : Option Addr) (m c : Nat) (w : World) : Prop := CellsAt w X 6 (cellsOp k p d a n A m c)
structure LawBegun (k : Int) (p d : ByteArray) (a n : Int) (A : Option Addr) (m c : Nat) (W W0 : World) : Prop where
 below : Below W.heap.size W W0
 size : W0.heap.size = W.heap.size + 1
 op : CellsAt W0 W.heap.size 6 (cellsOp k p d a n A m c)
def LookLies (B0 : Nat) (wr : World) (l2 : LookP) (z : Int) (s9 s10 : Value) (wx : World) : Prop :=
 ∃ Y NB mn mc BB cn cc,s9 = .pointer (some ⟨Y,0,none⟩) ∧ s10 = .int .i64 z ∧ CellsAt wx Y 9 (cellsLk l2 NB mn mc BB cn cc) ∧ RowsAt B0 wx l2.res NB mn mc BB cn cc ∧ B0 <= Y ∧ Below B0 wr wx
end
end Go.Proofs.YtdpooagnbmpinaaGreatDoor
