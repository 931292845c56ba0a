import Derived.Test.YtdpooagnbmpinaaGreatDoorZGR
import Derived.Test.YtdpooagnbmpinaaGreatDoorZP1
import Derived.Test.YtdpooagnbmpinaaGreatDoorShelf
import Derived.Test.YtdpooagnbmpinaaGreatDoorZW2
import Derived.Test.YtdpooagnbmpinaaGreatDoorZQ1
namespace Go.Proofs.YtdpooagnbmpinaaGreatDoor
section
open Go.RowKit
def begunN (s : List UInt8) (nf : Nat) : Int := if (readP s).1 = 0 then (if 20000 < nf then 3 else 0) else (readP s).1
structure Begun (FA : Option Addr) (nf cf : Nat) (fed : List Nat) (nm : List (List UInt8)) (W W' : World) (R : Nat) (NA : Option Addr) (cn : Nat) : Prop where
 rd : RdAt R FA nf cf fed [] W'
 at_ : R + 1 = W'.heap.size
 below : Below W.heap.size W W'
 lt : W.heap.size <= R
 cap : nm.length <= cn
 row : RowAt W' NA (nm.map fun x => .string (ofBytes x))
 na : 0 < nm.length -> ∀ b off,NA = some ⟨b,off,none⟩ -> b < R
variable {FA : Option Addr} {nf cf : Nat} {fed : List Nat}
set_option maxRecDepth 100000 in
set_option maxHeartbeats 4000000 in
theorem begun_any (s : ByteArray) (W : World) (hs : s.size < 4294967281) (hfl : fed.length = nf) (hnf : nf <= maxLen) (hrow : RowAt W FA (fed.map encW)) :
  Calls Tryz.prog 26 #[.string s,.slice FA nf cf] W fun e W' => ∃ R NA cn,e = .returned (.tuple #[.pointer (some ⟨R,0,none⟩),.slice NA (readP (bytesOf s)).2.length cn,.int .i64 (begunN (bytesOf s) nf)]) ∧ Begun FA nf cf fed (readP (bytesOf s)).2 W W' R NA cn := by
 have HS := Lib.hid (fun W => psplit_any s W hs)
 have hcs := readP_cases (bytesOf s)
 unfold SplitPPost at HS
 have HBN : Hid (begunN (bytesOf s) nf = if (readP (bytesOf s)).1 = 0 then (if 20000 < nf then 3 else 0) else (readP (bytesOf s)).1) := rfl
 have HFL := Lib.hid hfl
 generalize readP (bytesOf s) = rp at *
 obtain ⟨z,nm⟩ := rp
 simp only at HS HBN hcs ⊢
 have HROW := Lib.hid hrow
 clear hrow hfl
 have hfin : ∀ (w1 : World) (v : Value),PathAt w1 v nm -> Below W.heap.size W w1 -> ∃ NA cn,v = .slice NA nm.length cn ∧ Begun FA nf cf fed nm W (w1.alloc (.cells #[.slice FA nf cf,.slice none 0 0] 88)) w1.heap.size NA cn := by
  rintro w1 v ⟨NA,cn,rfl,hc,_,hr⟩ hb
  refine ⟨NA,cn,rfl,⟨⟨by simp,cell_new w1 _ _ 0 _ rfl,HFL.out,(HROW.out.below hb).alloc _,fun hp b off e => ?_,⟨.slice none 0 0,cell_new w1 _ _ 1 _ rfl,World.ownsRow_nil _ _ _ _⟩,?_⟩,by simp,hb.alloc hb.size _,hb.size,hc,hr.alloc _,?_⟩⟩
  ·obtain ⟨b',off',e',hb',_⟩ := HROW.out (by rw [List.length_map];exact hp)
   rw [e] at e'
   cases e'
   exact Nat.lt_of_lt_of_le hb' hb.size
  ·exact (World.frozen?_of_block (w := w1.alloc (.cells #[.slice FA nf cf,.slice none 0 0] 88)) rfl).trans (by simp)
  ·intro hpos b off e
   obtain ⟨b',off',e',hb',_⟩ := hr (by simpa using hpos)
   rw [e] at e'
   cases e'
   exact hb'
 have HFIN := Lib.hid hfin
 clear hfin
 generalize nm.length = nn at *
 unfold maxLen at hnf
 by_cases hz : z = 0
 ·subst hz
  by_cases hl : 20000 < nf
  ·have HE : Hid (begunN (bytesOf s) nf = 3) := by rw [Hid,HBN.out,if_pos rfl,if_pos hl]
   have hl' : (20000 : Int) < (nf : Int) := by omega
   clear hcs HBN
   go_enter Tryz.func26,Tryz.ntmps26
   go_wp2_with fail
   refine (HS.out _).mono ?_
   rintro e w1 ⟨v,rfl,hp,hb1,_⟩
   obtain ⟨NA,cn,rfl,hbg⟩ := HFIN.out w1 v hp hb1
   clear hp hb1
   go_wp2_with fail
   refine bodyPost_ret (v := .tuple #[.pointer (some ⟨w1.heap.size,0,none⟩),.slice NA nn cn,.int .i64 3]) (by simp [results,Tryz.results26,go_sem]) rfl ⟨w1.heap.size,NA,cn,by rw [HE.out],hbg⟩
  ·have HE : Hid (begunN (bytesOf s) nf = 0) := by rw [Hid,HBN.out,if_pos rfl,if_neg hl]
   have hl' : ¬ (20000 : Int) < (nf : Int) := by omega
   clear hcs HBN
   go_enter Tryz.func26,Tryz.ntmps26
   go_wp2_with fail
   refine (HS.out _).mono ?_
   rintro e w1 ⟨v,rfl,hp,hb1,_⟩
   obtain ⟨NA,cn,rfl,hbg⟩ := HFIN.out w1 v hp hb1
   clear hp hb1
   go_wp2_with fail
   refine bodyPost_ret (v := .tuple #[.pointer (some ⟨w1.heap.size,0,none⟩),.slice NA nn cn,.int .i64 0]) (by simp [results,Tryz.results26,go_sem]) rfl ⟨w1.heap.size,NA,cn,by rw [HE.out],hbg⟩
 ·have HE : Hid (begunN (bytesOf s) nf = z) := by rw [Hid,HBN.out,if_neg hz]
  have hz' : (z == 0) = false := by rw [beq_eq_false_iff_ne];exact hz
  clear hcs HBN
  go_enter Tryz.func26,Tryz.ntmps26
  go_wp2_with fail
  refine (HS.out _).mono ?_
  rintro e w1 ⟨v,rfl,hp,hb1,_⟩
  obtain ⟨NA,cn,rfl,hbg⟩ := HFIN.out w1 v hp hb1
  clear hp hb1
  go_wp2_with fail
  refine bodyPost_ret (v := .tuple #[.pointer (some ⟨w1.heap.size,0,none⟩),.slice NA nn cn,.int .i64 z]) (by simp [results,Tryz.results26,go_sem]) rfl ⟨w1.heap.size,NA,cn,by rw [HE.out],hbg⟩
end
section
open Go.RowKit
def runF : Res (Nat × Nat × Nat × Nat) -> Nat -> Value
 | .val t l => cellsW (.bool false) (.int .i64 0) (.int .i64 l.length) (.int .i64 0) (.int .i64 t.1) (.int .i64 t.2.1) (.int .i64 t.2.2.1) (.int .i64 t.2.2.2)
 | .stop (.need p) _ => cellsW (.bool true) (.int .i64 p) (.int .i64 0) (.int .i64 0) (.int .i64 0) (.int .i64 0) (.int .i64 0) (.int .i64 0)
 | .stop (.err c) l => cellsW (.bool false) (.int .i64 0) (.int .i64 l.length) (.int .i64 c) (.int .i64 0) (.int .i64 0) (.int .i64 0) (.int .i64 0)
theorem ownsRow_slice {w : World} {base : Nat} {e : TypeId} {size : Nat} {v : Value} {n : Nat} {xs : List Value} (h : w.ownsRow base e size v n xs) : ∃ A c,v = .slice A n c ∧ n <= c ∧ c <= maxLen := by
 rcases h.2 with ⟨h1,h2⟩ | ⟨g,cap,cur,h1,_,_,h2,h3,_⟩
 ·exact ⟨none,0,by rw [h1,h2],by omega,by simp [maxLen]⟩
 ·exact ⟨_,_,h1,h2,h3⟩
theorem RdAt.at1 {R : Nat} {FA : Option Addr} {nf cf : Nat} {fed ats : List Nat} {W : World} (h : RdAt R FA nf cf fed ats W) : ∃ A c,W.cell? ⟨R,1,none⟩ = some (.slice A ats.length c) := by
 obtain ⟨v,hv,ho⟩ := h.atsv
 obtain ⟨A,c,rfl,_⟩ := ownsRow_slice ho
 exact ⟨A,c,hv⟩
theorem RB.to_below {R B : Nat} {FA : Option Addr} {nf cf : Nat} {fed ats : List Nat} {W W' : World} (h : RB R B W W') (hr : RdAt R FA nf cf fed ats W) {n : Nat} (hn : n <= B) (hR : n <= R) : Below n W W' :=
 ⟨h.os,h.tape,h.output,h.size,fun b hb => (h.keep b (by omega) (hr.free_lt (by omega))).1⟩
theorem cellsAt_new (W : World) (cs : Array Value) (T : TypeId) (n : Nat) (f : Nat -> Value) (h : ∀ i,i < n -> cs[i]? = some (f i)) : CellsAt (W.alloc (.cells cs T)) W.heap.size n f :=
 ⟨fun i hi => cell_new W cs T i _ (h i hi),fun i => (World.frozen?_of_block (w := W.alloc (.cells cs T)) rfl).trans (by simp)⟩
theorem below_putTo {n X : Nat} {f : Nat -> Value} {W W' : World} (h : Below n W W') (hn : n <= X) : ∀ m,Below n W (putTo W' X f m)
 | 0 => h
 | m + 1 => (below_putTo h hn m).setCell (p := ⟨X,m,none⟩) hn _
theorem CellsAt.upd {W : World} {X n i : Nat} {f : Nat -> Value} {v : Value} (h : CellsAt W X n f) (hi : i < n) : CellsAt (W.setCell ⟨X,i,none⟩ v) X n (fun j => if j = i then v else f j) := by
 refine ⟨fun j hj => ?_,fun j => (World.frozen?_setCell _ _ _ _).trans (h.2 j)⟩
 by_cases e : j = i
 ·subst e
  rw [World.cell?_setCell_same' _ _ _ (by rw [h.1 j hj];rfl)]
  exact congrArg some (if_pos rfl).symm
 ·rw [World.cell?_setCell_other _ _ _ _ (by intro h;injection h with _ h;exact e h.symm),h.1 j hj]
  exact congrArg some (if_neg e).symm
theorem cells_congr {W : World} {X n : Nat} {f g : Nat -> Value} (h : CellsAt W X n f) (hg : ∀ i,i < n -> f i = g i) : CellsAt W X n g := ⟨fun i hi => (h.1 i hi).trans (congrArg some (hg i hi)),h.2⟩
variable {FA : Option Addr} {nf cf : Nat} {fed : List Nat}
set_option maxRecDepth 100000 in
set_option maxHeartbeats 8000000 in
theorem run_no (s : ByteArray) (W : World) (hs : s.size < 4294967281) (hfl : fed.length = nf) (hnf : nf <= maxLen) (hrow : RowAt W FA (fed.map encW)) (hbg : begunN (bytesOf s) nf ≠ 0) :
  Calls Tryz.prog 13 #[.string s,.slice FA nf cf] W fun e W' => e = .returned (.tuple #[agg8 zeroW,.int .i64 (begunN (bytesOf s) nf)]) ∧ Below W.heap.size W W' := by
 obtain ⟨W1,hW1⟩ : ∃ W1,W.alloc (.cells #[.bool false,.int .i64 0,.int .i64 0,.int .i64 0,.int .i64 0,.int .i64 0,.int .i64 0,.int .i64 0] 48) = W1 := ⟨_,rfl⟩
 have hb1 : Below W.heap.size W W1 := by rw [<- hW1];exact (Below.refl _ _).alloc (Nat.le_refl _) _
 have hs1 : W1.heap.size = W.heap.size + 1 := by rw [<- hW1];simp
 have hCO : CellsAt W1 W.heap.size 8 zeroW := by rw [<- hW1];exact cellsAt_new _ _ _ _ _ fun i hi => match i,hi with | 0,_ => rfl | 1,_ => rfl | 2,_ => rfl | 3,_ => rfl | 4,_ => rfl | 5,_ => rfl | 6,_ => rfl | 7,_ => rfl
 have HBG := Lib.hid (begun_any (FA := FA) (nf := nf) (cf := cf) s W1 hs hfl hnf (hrow.below hb1))
 have hbz : (begunN (bytesOf s) nf != 0) = true := by rw [bne_iff_ne];exact hbg
 have HB1 := Lib.hid hb1
 generalize begunN (bytesOf s) nf = z at *
 generalize (readP (bytesOf s)).2 = nm at *
 clear hrow hfl hb1 hbg
 go_enter Tryz.func13,Tryz.ntmps13
 go_wp2_with fail
 refine HBG.out.mono ?_
 rintro e w2 ⟨R,NA,cn,rfl,hbg⟩
 have hO2 := hCO.below hbg.below (by omega)
 have hB2 : Below W.heap.size W w2 := HB1.out.trans (hbg.below.mono (by omega))
 have hs2 := hbg.below.size
 obtain ⟨w3,hw3⟩ : ∃ w3,(w2.alloc (.cells #[.pointer (some ⟨R,0,none⟩)] 77)).alloc (.cells #[.slice NA nm.length cn] 31) = w3 := ⟨_,rfl⟩
 have hb3 : Below w2.heap.size w2 w3 := by rw [<- hw3];exact ((Below.refl _ _).alloc (Nat.le_refl _) _).alloc (by simp) _
 have hO3 := hO2.below hb3 (by omega)
 have hB3 := hB2.trans (hb3.mono (by omega))
 have z0 := hO3.1 0 (by omega)
 have z1 := hO3.1 1 (by omega)
 have z2 := hO3.1 2 (by omega)
 have z3 := hO3.1 3 (by omega)
 have z4 := hO3.1 4 (by omega)
 have z5 := hO3.1 5 (by omega)
 have z6 := hO3.1 6 (by omega)
 have z7 := hO3.1 7 (by omega)
 have y0 := hO3.2 0
 have y1 := hO3.2 1
 have y2 := hO3.2 2
 have y3 := hO3.2 3
 have y4 := hO3.2 4
 have y5 := hO3.2 5
 have y6 := hO3.2 6
 have y7 := hO3.2 7
 obtain ⟨w4,hw4⟩ : ∃ w4,putTo w3 W.heap.size zeroW 8 = w4 := ⟨_,rfl⟩
 have HO4 : Hid (CellsAt w4 W.heap.size 8 zeroW) := by rw [Hid,<- hw4];exact putTo_all hO3
 have HB4 : Hid (Below W.heap.size W w4) := by rw [Hid,<- hw4];exact below_putTo hB3 (Nat.le_refl _) 8
 unfold putTo putTo putTo putTo putTo putTo putTo putTo putTo zeroW cellsW at hw4
 clear hbg hb3 hO2 hO3
 go_wp2_with fail
 have g0 := HO4.out.1 0 (by omega)
 have g1 := HO4.out.1 1 (by omega)
 have g2 := HO4.out.1 2 (by omega)
 have g3 := HO4.out.1 3 (by omega)
 have g4 := HO4.out.1 4 (by omega)
 have g5 := HO4.out.1 5 (by omega)
 have g6 := HO4.out.1 6 (by omega)
 have g7 := HO4.out.1 7 (by omega)
 refine bodyPost_ret (v := .tuple #[agg8 zeroW,.int .i64 z]) (by simp [results,Tryz.results13,go_sem,g0,g1,g2,g3,g4,g5,g6,g7,agg8]) rfl ⟨rfl,HB4.out⟩
def runP (s : List UInt8) (fed : List Nat) : (Nat -> Value) × Int :=
 if begunN s fed.length = 0 then (runF (walkedP fed (readP s).2),0) else (zeroW,begunN s fed.length)
set_option maxRecDepth 100000 in
set_option maxHeartbeats 8000000 in
theorem run_yes (s : ByteArray) (W : World) (hs : s.size < 4294967281) (hfl : fed.length = nf) (hnf : nf <= maxLen) (hx64 : ∀ x ∈ fed,x < 18446744073709551616) (hrow : RowAt W FA (fed.map encW)) (hbg : begunN (bytesOf s) nf = 0) :
  Calls Tryz.prog 13 #[.string s,.slice FA nf cf] W fun e W' => e = .returned (.tuple #[agg8 (runF (walkedP fed (readP (bytesOf s)).2)),.int .i64 0]) ∧ Below W.heap.size W W' := by
 obtain ⟨W1,hW1⟩ : ∃ W1,W.alloc (.cells #[.bool false,.int .i64 0,.int .i64 0,.int .i64 0,.int .i64 0,.int .i64 0,.int .i64 0,.int .i64 0] 48) = W1 := ⟨_,rfl⟩
 have hb1 : Below W.heap.size W W1 := by rw [<- hW1];exact (Below.refl _ _).alloc (Nat.le_refl _) _
 have hs1 : W1.heap.size = W.heap.size + 1 := by rw [<- hW1];simp
 have hCO : CellsAt W1 W.heap.size 8 zeroW := by rw [<- hW1];exact cellsAt_new _ _ _ _ _ fun i hi => match i,hi with | 0,_ => rfl | 1,_ => rfl | 2,_ => rfl | 3,_ => rfl | 4,_ => rfl | 5,_ => rfl | 6,_ => rfl | 7,_ => rfl
 have hbga := begun_any (FA := FA) (nf := nf) (cf := cf) s W1 hs hfl hnf (hrow.below hb1)
 rw [hbg] at hbga
 have HBG := Lib.hid hbga
 have HB1 := Lib.hid hb1
 have HX := Lib.hid hx64
 have hq : nf <= 20000 ∧ (readP (bytesOf s)).2.length <= 100 ∧ ∀ x ∈ (readP (bytesOf s)).2,rightB x = true := by
  unfold begunN at hbg
  rcases readP_cases (bytesOf s) with ⟨h1,h2,h3⟩ | ⟨h1,h2⟩
  ·rw [if_pos h1] at hbg
   refine ⟨?_,by have := h2.1;omega,List.all_eq_true.1 h3⟩
   by_cases hl : 20000 < nf
   ·rw [if_pos hl] at hbg;cases hbg
   ·omega
  ·rw [if_neg (by omega)] at hbg
   omega
 obtain ⟨hn2,hn100,hright⟩ := hq
 generalize (readP (bytesOf s)).2 = nm at *
 clear hrow hb1 hbg hbga hx64
 go_enter Tryz.func13,Tryz.ntmps13
 go_wp2_with fail
 refine HBG.out.mono ?_
 rintro e w2 ⟨R,NA,cn,rfl,hbg⟩
 have hO2 := hCO.below hbg.below (by omega)
 have hB2 : Below W.heap.size W w2 := HB1.out.trans (hbg.below.mono (by omega))
 have hs2 := hbg.below.size
 obtain ⟨w3,hw3⟩ : ∃ w3,(w2.alloc (.cells #[.pointer (some ⟨R,0,none⟩)] 77)).alloc (.cells #[.slice NA nm.length cn] 31) = w3 := ⟨_,rfl⟩
 have hb3 : Below w2.heap.size w2 w3 := by rw [<- hw3];exact ((Below.refl _ _).alloc (Nat.le_refl _) _).alloc (by simp) _
 have hs3 : w3.heap.size = w2.heap.size + 2 := by rw [<- hw3];simp
 have c1 : w3.cell? ⟨w2.heap.size,0,none⟩ = some (.pointer (some ⟨R,0,none⟩)) := by
  rw [<- hw3]
  exact (((Below.refl _ (w2.alloc (.cells #[.pointer (some ⟨R,0,none⟩)] 77))).alloc (Nat.le_refl _) _).cell (p := ⟨w2.heap.size,0,none⟩) (by simp)).trans (cell_new w2 _ _ 0 _ rfl)
 have c2 : w3.cell? ⟨w2.heap.size + 1,0,none⟩ = some (.slice NA nm.length cn) := by
  rw [<- hw3]
  have := cell_new (w2.alloc (.cells #[.pointer (some ⟨R,0,none⟩)] 77)) #[.slice NA nm.length cn] 31 0 _ rfl
  rwa [World.size_alloc] at this
 have hrd3 := hbg.rd.below hb3
 have hR := hbg.at_
 have hRl := hbg.lt
 have hrow3 := hbg.row.below hb3
 have hcap := hbg.cap
 have hna := hbg.na
 have hO3 := hO2.below hb3 (by omega)
 have hB3 := hB2.trans (hb3.mono (by omega))
 have hTD := toldW_any (R := R) (FA := FA) (nf := nf) (cf := cf) (fed := fed) w2.heap.size (w2.heap.size + 1) (walkedP fed nm) w3 hrd3 (fun W' hb' =>
  run1_any w2.heap.size (w2.heap.size + 1) nm W' ⟨(hb'.cell (p := ⟨w2.heap.size,0,none⟩) (by show w2.heap.size < _;omega)).trans c1,NA,cn,(hb'.cell (p := ⟨w2.heap.size + 1,0,none⟩) (by show w2.heap.size + 1 < _;omega)).trans c2,hcap,hn100,hright,hrow3.below hb',hna⟩ hn2 HX.out (hrd3.below hb'))
 have HRD3 := Lib.hid hrd3
 have hF1 : FreeAt R w3 w2.heap.size := hbg.rd.free_new hb3 (Nat.le_refl _)
 clear hbg hb3 hO2 hrow3 hna hright hrd3 hCO HB1 HBG c2 hcap
 generalize hr : walkedP fed nm = r at *
 go_wp2_with fail
 cases r with
 | stop o l =>
  cases o with
  | need p =>
   unfold toldV agg8 zeroW cellsW at hTD
   have HTD := Lib.hid hTD
   clear hTD
   refine HTD.out.mono ?_
   rintro e w4 ⟨rfl,h4,hb4⟩
   have hO4 := hO3.rb hb4 (by omega) (HRD3.out.free_lt (by omega))
   have hB4 : Below W.heap.size W w4 := hB3.trans (hb4.to_below HRD3.out (by omega) (by omega))
   have hs4 := hb4.size
   obtain ⟨w5,hw5⟩ : ∃ w5,w4.alloc (.cells #[.bool false,.int .i64 0,.int .i64 0,.int .i64 0,.int .i64 0,.int .i64 0,.int .i64 0,.int .i64 0] 48) = w5 := ⟨_,rfl⟩
   have hb5 : Below w4.heap.size w4 w5 := by rw [<- hw5];exact (Below.refl _ _).alloc (Nat.le_refl _) _
   have hO5 := hO4.below hb5 (by omega)
   have hB5 := hB4.trans (hb5.mono (by omega))
   have hX5 : CellsAt w5 w4.heap.size 8 zeroW := by rw [<- hw5];exact cellsAt_new _ _ _ _ _ fun i hi => match i,hi with | 0,_ => rfl | 1,_ => rfl | 2,_ => rfl | 3,_ => rfl | 4,_ => rfl | 5,_ => rfl | 6,_ => rfl | 7,_ => rfl
   obtain ⟨wb,hwb⟩ : ∃ wb,putTo w5 w4.heap.size zeroW 8 = wb := ⟨_,rfl⟩
   have xa0 := hX5.1 0 (by omega)
   have xb0 := hX5.2 0
   have xa1 := hX5.1 1 (by omega)
   have xb1 := hX5.2 1
   have xa2 := hX5.1 2 (by omega)
   have xb2 := hX5.2 2
   have xa3 := hX5.1 3 (by omega)
   have xb3 := hX5.2 3
   have xa4 := hX5.1 4 (by omega)
   have xb4 := hX5.2 4
   have xa5 := hX5.1 5 (by omega)
   have xb5 := hX5.2 5
   have xa6 := hX5.1 6 (by omega)
   have xb6 := hX5.2 6
   have xa7 := hX5.1 7 (by omega)
   have xb7 := hX5.2 7
   have hX5 : CellsAt wb w4.heap.size 8 zeroW := by rw [<- hwb];exact putTo_all hX5
   have hO5 : CellsAt wb W.heap.size 8 zeroW := by rw [<- hwb];exact hO5.put (by omega)
   have hB5 : Below W.heap.size W wb := by rw [<- hwb];exact below_putTo hB5 (by omega) 8
   unfold putTo putTo putTo putTo putTo putTo putTo putTo putTo zeroW cellsW at hwb
   obtain ⟨w6,hw6⟩ : ∃ w6,putTo wb W.heap.size (runF (.stop (.need p) l)) 8 = w6 := ⟨_,rfl⟩
   have HO6 : Hid (CellsAt w6 W.heap.size 8 (runF (.stop (.need p) l))) := by rw [Hid,<- hw6];exact putTo_all hO5
   have HB6 : Hid (Below W.heap.size W w6) := by rw [Hid,<- hw6];exact below_putTo hB5 (Nat.le_refl _) 8
   have z0 := hO5.1 0 (by omega)
   have z1 := hO5.1 1 (by omega)
   have z2 := hO5.1 2 (by omega)
   have z3 := hO5.1 3 (by omega)
   have z4 := hO5.1 4 (by omega)
   have z5 := hO5.1 5 (by omega)
   have z6 := hO5.1 6 (by omega)
   have z7 := hO5.1 7 (by omega)
   have y0 := hO5.2 0
   have y1 := hO5.2 1
   have y2 := hO5.2 2
   have y3 := hO5.2 3
   have y4 := hO5.2 4
   have y5 := hO5.2 5
   have y6 := hO5.2 6
   have y7 := hO5.2 7
   unfold putTo putTo putTo putTo putTo putTo putTo putTo putTo runF cellsW at hw6
   clear hO3 hO4 hO5 hX5 hb4 hb5 h4
   go_wp2_with fail
   have g0 := HO6.out.1 0 (by omega)
   have g1 := HO6.out.1 1 (by omega)
   have g2 := HO6.out.1 2 (by omega)
   have g3 := HO6.out.1 3 (by omega)
   have g4 := HO6.out.1 4 (by omega)
   have g5 := HO6.out.1 5 (by omega)
   have g6 := HO6.out.1 6 (by omega)
   have g7 := HO6.out.1 7 (by omega)
   have q0 := HO6.out.2 0
   have q1 := HO6.out.2 1
   have q2 := HO6.out.2 2
   have q3 := HO6.out.2 3
   have q4 := HO6.out.2 4
   have q5 := HO6.out.2 5
   have q6 := HO6.out.2 6
   have q7 := HO6.out.2 7
   refine bodyPost_ret (v := .tuple #[agg8 (runF (.stop (.need p) l)),.int .i64 0]) (by simp [results,Tryz.results13,go_sem,g0,g1,g2,g3,g4,g5,g6,g7,agg8,runF,cellsW]) rfl ⟨by rw [hr],HB6.out⟩
  | err c =>
   unfold toldV agg8 zeroW cellsW at hTD
   have HTD := Lib.hid hTD
   clear hTD
   refine HTD.out.mono ?_
   rintro e w4 ⟨rfl,h4,hb4⟩
   have hO4 := hO3.rb hb4 (by omega) (HRD3.out.free_lt (by omega))
   have hB4 : Below W.heap.size W w4 := hB3.trans (hb4.to_below HRD3.out (by omega) (by omega))
   have hs4 := hb4.size
   have k1 := (hb4.cell (b := w2.heap.size) (by omega) hF1).trans c1
   obtain ⟨AA,ca,k2⟩ := h4.at1
   have k2 : w4.cell? ⟨R,1,none⟩ = some (.slice AA l.length ca) := k2
   obtain ⟨w5,hw5⟩ : ∃ w5,w4.alloc (.cells #[.bool false,.int .i64 0,.int .i64 0,.int .i64 0,.int .i64 0,.int .i64 0,.int .i64 0,.int .i64 0] 48) = w5 := ⟨_,rfl⟩
   have hb5 : Below w4.heap.size w4 w5 := by rw [<- hw5];exact (Below.refl _ _).alloc (Nat.le_refl _) _
   have hO5 := hO4.below hb5 (by omega)
   have hB5 := hB4.trans (hb5.mono (by omega))
   have k1 : w5.cell? ⟨w2.heap.size,0,none⟩ = some (.pointer (some ⟨R,0,none⟩)) := (hb5.cell (p := ⟨w2.heap.size,0,none⟩) (by show w2.heap.size < _;omega)).trans k1
   have k2 : w5.cell? ⟨R,1,none⟩ = some (.slice AA l.length ca) := (hb5.cell (p := ⟨R,1,none⟩) (by show R < _;omega)).trans k2
   have hX5 : CellsAt w5 w4.heap.size 8 (zeroW) := by rw [<- hw5];exact cellsAt_new _ _ _ _ _ fun i hi => match i,hi with | 0,_ => rfl | 1,_ => rfl | 2,_ => rfl | 3,_ => rfl | 4,_ => rfl | 5,_ => rfl | 6,_ => rfl | 7,_ => rfl
   obtain ⟨wb,hwb⟩ : ∃ wb,putTo w5 w4.heap.size zeroW 8 = wb := ⟨_,rfl⟩
   have xa0 := hX5.1 0 (by omega)
   have xb0 := hX5.2 0
   have xa1 := hX5.1 1 (by omega)
   have xb1 := hX5.2 1
   have xa2 := hX5.1 2 (by omega)
   have xb2 := hX5.2 2
   have xa3 := hX5.1 3 (by omega)
   have xb3 := hX5.2 3
   have xa4 := hX5.1 4 (by omega)
   have xb4 := hX5.2 4
   have xa5 := hX5.1 5 (by omega)
   have xb5 := hX5.2 5
   have xa6 := hX5.1 6 (by omega)
   have xb6 := hX5.2 6
   have xa7 := hX5.1 7 (by omega)
   have xb7 := hX5.2 7
   have hX5 : CellsAt wb w4.heap.size 8 zeroW := by rw [<- hwb];exact putTo_all hX5
   have hO5 : CellsAt wb W.heap.size 8 zeroW := by rw [<- hwb];exact hO5.put (by omega)
   have hB5 : Below W.heap.size W wb := by rw [<- hwb];exact below_putTo hB5 (by omega) 8
   have k1 : wb.cell? ⟨w2.heap.size,0,none⟩ = some (.pointer (some ⟨R,0,none⟩)) := by rw [<- hwb];exact (putTo_other (by omega) 8).trans k1
   have k2 : wb.cell? ⟨R,1,none⟩ = some (.slice AA l.length ca) := by rw [<- hwb];exact (putTo_other (by omega) 8).trans k2
   unfold putTo putTo putTo putTo putTo putTo putTo putTo putTo zeroW cellsW at hwb
   obtain ⟨w6,hw6⟩ : ∃ w6,(wb.setCell ⟨w4.heap.size,2,none⟩ (.int .i64 l.length)).setCell ⟨w4.heap.size,3,none⟩ (.int .i64 c) = w6 := ⟨_,rfl⟩
   have hX6 : CellsAt w6 w4.heap.size 8 (runF (.stop (.err c) l)) := by
    rw [<- hw6]
    refine cells_congr ((hX5.upd (i := 2) (by omega)).upd (i := 3) (by omega)) fun i hi => ?_
    match i,hi with | 0,_ => rfl | 1,_ => rfl | 2,_ => rfl | 3,_ => rfl | 4,_ => rfl | 5,_ => rfl | 6,_ => rfl | 7,_ => rfl
   have hO6 : CellsAt w6 W.heap.size 8 zeroW := by rw [<- hw6];exact (hO5.set (by omega)).set (by omega)
   have hB6 : Below W.heap.size W w6 := by rw [<- hw6];exact (hB5.setCell (p := ⟨w4.heap.size,2,none⟩) (by show W.heap.size <= w4.heap.size;omega) _).setCell (p := ⟨w4.heap.size,3,none⟩) (by show W.heap.size <= w4.heap.size;omega) _
   obtain ⟨w7,hw7⟩ : ∃ w7,putTo w6 W.heap.size (runF (.stop (.err c) l)) 8 = w7 := ⟨_,rfl⟩
   have HO7 : Hid (CellsAt w7 W.heap.size 8 (runF (.stop (.err c) l))) := by rw [Hid,<- hw7];exact putTo_all hO6
   have HB7 : Hid (Below W.heap.size W w7) := by rw [Hid,<- hw7];exact below_putTo hB6 (Nat.le_refl _) 8
   have x52 := hX5.1 2 (by omega)
   have x53 := hX5.1 3 (by omega)
   have v52 := hX5.2 2
   have v53 := hX5.2 3
   have x0 := hX6.1 0 (by omega)
   have x1 := hX6.1 1 (by omega)
   have x2 := hX6.1 2 (by omega)
   have x3 := hX6.1 3 (by omega)
   have x4 := hX6.1 4 (by omega)
   have x5 := hX6.1 5 (by omega)
   have x6 := hX6.1 6 (by omega)
   have x7 := hX6.1 7 (by omega)
   have v0 := hX6.2 0
   have v1 := hX6.2 1
   have v2 := hX6.2 2
   have v3 := hX6.2 3
   have v4 := hX6.2 4
   have v5 := hX6.2 5
   have v6 := hX6.2 6
   have v7 := hX6.2 7
   have z0 := hO6.1 0 (by omega)
   have z1 := hO6.1 1 (by omega)
   have z2 := hO6.1 2 (by omega)
   have z3 := hO6.1 3 (by omega)
   have z4 := hO6.1 4 (by omega)
   have z5 := hO6.1 5 (by omega)
   have z6 := hO6.1 6 (by omega)
   have z7 := hO6.1 7 (by omega)
   have y0 := hO6.2 0
   have y1 := hO6.2 1
   have y2 := hO6.2 2
   have y3 := hO6.2 3
   have y4 := hO6.2 4
   have y5 := hO6.2 5
   have y6 := hO6.2 6
   have y7 := hO6.2 7
   unfold runF cellsW at x0 x1 x2 x3 x4 x5 x6 x7
   unfold putTo putTo putTo putTo putTo putTo putTo putTo putTo runF cellsW at hw7
   simp only at hw7 x0 x1 x2 x3 x4 x5 x6 x7
   clear hO3 hO4 hO5 hb4 hb5 h4 hO6 hX5 hX6
   obtain ⟨ll,hll⟩ : ∃ ll,l.length = ll := ⟨_,rfl⟩
   have HLL := Lib.hid hll
   rw [hll] at hw6 hw7 x2 k2
   clear hll
   go_wp2_with fail
   have g0 := HO7.out.1 0 (by omega)
   have g1 := HO7.out.1 1 (by omega)
   have g2 := HO7.out.1 2 (by omega)
   have g3 := HO7.out.1 3 (by omega)
   have g4 := HO7.out.1 4 (by omega)
   have g5 := HO7.out.1 5 (by omega)
   have g6 := HO7.out.1 6 (by omega)
   have g7 := HO7.out.1 7 (by omega)
   have q0 := HO7.out.2 0
   have q1 := HO7.out.2 1
   have q2 := HO7.out.2 2
   have q3 := HO7.out.2 3
   have q4 := HO7.out.2 4
   have q5 := HO7.out.2 5
   have q6 := HO7.out.2 6
   have q7 := HO7.out.2 7
   unfold runF cellsW at g0 g1 g2 g3 g4 g5 g6 g7
   simp only at g0 g1 g2 g3 g4 g5 g6 g7
   refine bodyPost_ret (v := .tuple #[agg8 (runF (.stop (.err c) l)),.int .i64 0]) (by simp [results,Tryz.results13,go_sem,g0,g1,g2,g3,g4,g5,g6,g7,agg8,runF,cellsW]) rfl ⟨by rw [hr],HB7.out⟩
 | val t l =>
  unfold toldV encLW agg8 lineW cellsW at hTD
  have HTD := Lib.hid hTD
  clear hTD
  refine HTD.out.mono ?_
  rintro e w4 ⟨rfl,h4,hb4⟩
  have hO4 := hO3.rb hb4 (by omega) (HRD3.out.free_lt (by omega))
  have hB4 : Below W.heap.size W w4 := hB3.trans (hb4.to_below HRD3.out (by omega) (by omega))
  have hs4 := hb4.size
  have k1 := (hb4.cell (b := w2.heap.size) (by omega) hF1).trans c1
  obtain ⟨AA,ca,k2⟩ := h4.at1
  have k2 : w4.cell? ⟨R,1,none⟩ = some (.slice AA l.length ca) := k2
  obtain ⟨w5,hw5⟩ : ∃ w5,w4.alloc (.cells #[.bool false,.int .i64 0,.int .i64 0,.int .i64 0,.int .i64 t.1,.int .i64 t.2.1,.int .i64 t.2.2.1,.int .i64 t.2.2.2] 48) = w5 := ⟨_,rfl⟩
  have hb5 : Below w4.heap.size w4 w5 := by rw [<- hw5];exact (Below.refl _ _).alloc (Nat.le_refl _) _
  have hO5 := hO4.below hb5 (by omega)
  have hB5 := hB4.trans (hb5.mono (by omega))
  have k1 : w5.cell? ⟨w2.heap.size,0,none⟩ = some (.pointer (some ⟨R,0,none⟩)) := (hb5.cell (p := ⟨w2.heap.size,0,none⟩) (by show w2.heap.size < _;omega)).trans k1
  have k2 : w5.cell? ⟨R,1,none⟩ = some (.slice AA l.length ca) := (hb5.cell (p := ⟨R,1,none⟩) (by show R < _;omega)).trans k2
  have hX5 : CellsAt w5 w4.heap.size 8 (lineW t) := by rw [<- hw5];exact cellsAt_new _ _ _ _ _ fun i hi => match i,hi with | 0,_ => rfl | 1,_ => rfl | 2,_ => rfl | 3,_ => rfl | 4,_ => rfl | 5,_ => rfl | 6,_ => rfl | 7,_ => rfl
  obtain ⟨w6,hw6⟩ : ∃ w6,(w5.setCell ⟨w4.heap.size,2,none⟩ (.int .i64 l.length)).setCell ⟨w4.heap.size,3,none⟩ (.int .i64 0) = w6 := ⟨_,rfl⟩
  have hX6 : CellsAt w6 w4.heap.size 8 (runF (.val t l)) := by
   rw [<- hw6]
   refine cells_congr ((hX5.upd (i := 2) (by omega)).upd (i := 3) (by omega)) fun i hi => ?_
   match i,hi with | 0,_ => rfl | 1,_ => rfl | 2,_ => rfl | 3,_ => rfl | 4,_ => rfl | 5,_ => rfl | 6,_ => rfl | 7,_ => rfl
  have hO6 : CellsAt w6 W.heap.size 8 zeroW := by rw [<- hw6];exact (hO5.set (by omega)).set (by omega)
  have hB6 : Below W.heap.size W w6 := by rw [<- hw6];exact (hB5.setCell (p := ⟨w4.heap.size,2,none⟩) (by show W.heap.size <= w4.heap.size;omega) _).setCell (p := ⟨w4.heap.size,3,none⟩) (by show W.heap.size <= w4.heap.size;omega) _
  obtain ⟨w7,hw7⟩ : ∃ w7,putTo w6 W.heap.size (runF (.val t l)) 8 = w7 := ⟨_,rfl⟩
  have HO7 : Hid (CellsAt w7 W.heap.size 8 (runF (.val t l))) := by rw [Hid,<- hw7];exact putTo_all hO6
  have HB7 : Hid (Below W.heap.size W w7) := by rw [Hid,<- hw7];exact below_putTo hB6 (Nat.le_refl _) 8
  have x52 := hX5.1 2 (by omega)
  have x53 := hX5.1 3 (by omega)
  have v52 := hX5.2 2
  have v53 := hX5.2 3
  have x0 := hX6.1 0 (by omega)
  have x1 := hX6.1 1 (by omega)
  have x2 := hX6.1 2 (by omega)
  have x3 := hX6.1 3 (by omega)
  have x4 := hX6.1 4 (by omega)
  have x5 := hX6.1 5 (by omega)
  have x6 := hX6.1 6 (by omega)
  have x7 := hX6.1 7 (by omega)
  have v0 := hX6.2 0
  have v1 := hX6.2 1
  have v2 := hX6.2 2
  have v3 := hX6.2 3
  have v4 := hX6.2 4
  have v5 := hX6.2 5
  have v6 := hX6.2 6
  have v7 := hX6.2 7
  have z0 := hO6.1 0 (by omega)
  have z1 := hO6.1 1 (by omega)
  have z2 := hO6.1 2 (by omega)
  have z3 := hO6.1 3 (by omega)
  have z4 := hO6.1 4 (by omega)
  have z5 := hO6.1 5 (by omega)
  have z6 := hO6.1 6 (by omega)
  have z7 := hO6.1 7 (by omega)
  have y0 := hO6.2 0
  have y1 := hO6.2 1
  have y2 := hO6.2 2
  have y3 := hO6.2 3
  have y4 := hO6.2 4
  have y5 := hO6.2 5
  have y6 := hO6.2 6
  have y7 := hO6.2 7
  unfold runF cellsW at x0 x1 x2 x3 x4 x5 x6 x7
  unfold putTo putTo putTo putTo putTo putTo putTo putTo putTo runF cellsW at hw7
  simp only at hw7 x0 x1 x2 x3 x4 x5 x6 x7
  clear hO3 hO4 hO5 hb4 hb5 h4 hO6 hX5 hX6
  obtain ⟨ll,hll⟩ : ∃ ll,l.length = ll := ⟨_,rfl⟩
  have HLL := Lib.hid hll
  rw [hll] at hw6 hw7 x2 k2
  clear hll
  go_wp2_with fail
  have g0 := HO7.out.1 0 (by omega)
  have g1 := HO7.out.1 1 (by omega)
  have g2 := HO7.out.1 2 (by omega)
  have g3 := HO7.out.1 3 (by omega)
  have g4 := HO7.out.1 4 (by omega)
  have g5 := HO7.out.1 5 (by omega)
  have g6 := HO7.out.1 6 (by omega)
  have g7 := HO7.out.1 7 (by omega)
  have q0 := HO7.out.2 0
  have q1 := HO7.out.2 1
  have q2 := HO7.out.2 2
  have q3 := HO7.out.2 3
  have q4 := HO7.out.2 4
  have q5 := HO7.out.2 5
  have q6 := HO7.out.2 6
  have q7 := HO7.out.2 7
  unfold runF cellsW at g0 g1 g2 g3 g4 g5 g6 g7
  simp only at g0 g1 g2 g3 g4 g5 g6 g7
  refine bodyPost_ret (v := .tuple #[agg8 (runF (.val t l)),.int .i64 0]) (by simp [results,Tryz.results13,go_sem,g0,g1,g2,g3,g4,g5,g6,g7,agg8,runF,cellsW]) rfl ⟨by rw [hr],HB7.out⟩
theorem run_any (s : ByteArray) (W : World) (hs : s.size < 4294967281) (hfl : fed.length = nf) (hnf : nf <= maxLen) (hx64 : ∀ x ∈ fed,x < 18446744073709551616) (hrow : RowAt W FA (fed.map encW)) :
  Calls Tryz.prog 13 #[.string s,.slice FA nf cf] W fun e W' => e = .returned (.tuple #[agg8 (runP (bytesOf s) fed).1,.int .i64 (runP (bytesOf s) fed).2]) ∧ Below W.heap.size W W' := by
 unfold runP
 rw [hfl]
 by_cases h : begunN (bytesOf s) nf = 0
 ·rw [if_pos h];exact run_yes s W hs hfl hnf hx64 hrow h
 ·rw [if_neg h];exact run_no s W hs hfl hnf hrow h
end
section
open Go.RowKit Go.Shelf
attribute [local go_sem] Oper.semAt_some
def atsP (s : List UInt8) (fed : List Nat) : List Nat := if begunN s fed.length = 0 then (walkedP fed (readP s).2).ats else []
variable {FA : Option Addr} {nf cf : Nat} {fed : List Nat}
end
section
open Go.RowKit Go.Shelf
attribute [local go_sem] Oper.semAt_some
def OutI (w0 W2 : World) (Bo H : Nat) (pre : List Nat) (W : World) : Prop :=
 ∃ v,W.heap[Bo]? = some (.cells #[v] 72 (0,0)) ∧ W.ownsRow H 3 1 v pre.length (pre.map encI) ∧ Below w0.heap.size w0 W ∧ W2.heap.size <= W.heap.size ∧ ∀ k,k < W2.heap.size -> k ≠ Bo -> W.heap[k]? = W2.heap[k]?
variable {FA : Option Addr} {nf cf : Nat} {fed : List Nat}
def LatsPost (l : List Nat) (W : World) (e : Ending) (W' : World) : Prop := ∃ A c,e = .returned (.slice A l.length c) ∧ W'.ownsRow W.heap.size 3 1 (.slice A l.length c) l.length (l.map encI) ∧ l.length <= c ∧ c <= maxLen ∧ Below W.heap.size W W'
end
section
open Go.RowKit
variable {FA : Option Addr} {nf cf : Nat} {fed : List Nat}
end
section
open Go.RowKit
theorem rowAt_fresh (W : World) (cs : Array Value) (T : TypeId) (l : List Value) (h : cs.toList = l) : RowAt (W.alloc (.cells cs T)) (some ⟨W.heap.size,0,none⟩) l := fun _ =>
 ⟨W.heap.size,0,rfl,by simp,fun k u hu => by rw [Nat.zero_add];exact cell_new W cs T k u (by rw [<- h] at hu;simpa using hu)⟩
end
end Go.Proofs.YtdpooagnbmpinaaGreatDoor
