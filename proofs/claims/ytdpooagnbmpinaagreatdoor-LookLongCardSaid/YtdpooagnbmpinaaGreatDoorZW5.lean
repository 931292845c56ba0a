import Derived.Test.YtdpooagnbmpinaaGreatDoorZG9
import Derived.Laws.EntriesVeiled
import Derived.Test.YtdpooagnbmpinaaGreatDoorZQ1
namespace Go.Proofs.YtdpooagnbmpinaaGreatDoor
section
open Go.RowKit
def shapeV : Value := .agg #[.func (.func 197) #[] #[],.func (.func 199) #[] #[],.func (.func 202) #[] #[]]
theorem inodes_any (W : World) : Calls Tryz.prog 134 #[] W fun e W' => e = .returned shapeV ∧ Below W.heap.size W W' := by
 go_enter Tryz.func134,Tryz.ntmps134
 go_wp2
 refine bodyPost_ret (v := shapeV) (by simp [results,Tryz.results134,go_sem,shapeV]) rfl ⟨rfl,?_⟩
 exact (Below.refl _ _).alloc (Nat.le_refl _) _
def Arr8 (W : World) (L : Nat) (f : Nat -> Nat) : Prop := (∀ i,i < 8 -> W.cell? ⟨L,i,none⟩ = some (.int .u64 (f i : Nat))) ∧ ∀ i,W.frozen? ⟨L,i,none⟩ = false
def lineF (k t : Nat) (i : Nat) : Nat := if i = 0 then k else if i = 1 then t else 0
def LineAt (W : World) (L : Nat) (k t : Nat) : Prop := Arr8 W L (lineF k t)
theorem Arr8.below {W W' : World} {L n : Nat} {f : Nat -> Nat} (h : Arr8 W L f) (hb : Below n W W') (hL : L < n) : Arr8 W' L f :=
 ⟨fun i hi => (hb.cell (p := ⟨L,i,none⟩) hL).trans (h.1 i hi),fun i => (hb.frozen (p := ⟨L,i,none⟩) hL).trans (h.2 i)⟩
theorem LineAt.below {W W' : World} {L k t n : Nat} (h : LineAt W L k t) (hb : Below n W W') (hL : L < n) : LineAt W' L k t := Arr8.below h hb hL
theorem Arr8.put {W : World} {L : Nat} {g : Nat -> Nat} (h : Arr8 W L g) (i x : Nat) (hi : i < 8) : Arr8 (W.setCell ⟨L,i,none⟩ (.int .u64 (x : Nat))) L (fun k => if k = i then x else g k) := by
 refine ⟨fun k hk => ?_,fun k => (World.frozen?_setCell _ _ _ _).trans (h.2 k)⟩
 by_cases e : k = i
 ·subst e
  rw [World.cell?_setCell_same' _ _ _ (by rw [h.1 k hk];rfl)]
  simp
 ·rw [World.cell?_setCell_other _ _ _ _ (by intro e';injection e' with _ e';omega),h.1 k hk]
  simp [e]
def put8 (W : World) (L : Nat) (a b : Nat) : World :=
 (((((((W.setCell ⟨L,0,none⟩ (.int .u64 a)).setCell ⟨L,1,none⟩ (.int .u64 b)).setCell ⟨L,2,none⟩ (.int .u64 0)).setCell ⟨L,3,none⟩ (.int .u64 0)).setCell ⟨L,4,none⟩ (.int .u64 0)).setCell ⟨L,5,none⟩ (.int .u64 0)).setCell ⟨L,6,none⟩ (.int .u64 0)).setCell ⟨L,7,none⟩ (.int .u64 0)
theorem put8_line {W : World} {L : Nat} {g : Nat -> Nat} (h : Arr8 W L g) (a b : Nat) : LineAt (put8 W L a b) L a b := by
 have := (((((((h.put 0 a (by decide)).put 1 b (by decide)).put 2 0 (by decide)).put 3 0 (by decide)).put 4 0 (by decide)).put 5 0 (by decide)).put 6 0 (by decide)).put 7 0 (by decide)
 refine ⟨fun i hi => (this.1 i hi).trans ?_,this.2⟩
 unfold lineF
 match i,hi with
 | 0,_ => rfl
 | 1,_ => rfl
 | 2,_ => rfl
 | 3,_ => rfl
 | 4,_ => rfl
 | 5,_ => rfl
 | 6,_ => rfl
 | 7,_ => rfl
theorem put8_below {W W0 : World} {n L a b : Nat} (h : Below n W0 W) (hL : n <= L) : Below n W0 (put8 W L a b) :=
 (((((((h.setCell (p := ⟨L,0,none⟩) hL _).setCell (p := ⟨L,1,none⟩) hL _).setCell (p := ⟨L,2,none⟩) hL _).setCell (p := ⟨L,3,none⟩) hL _).setCell (p := ⟨L,4,none⟩) hL _).setCell (p := ⟨L,5,none⟩) hL _).setCell (p := ⟨L,6,none⟩) hL _).setCell (p := ⟨L,7,none⟩) hL _
theorem put8_cells {W : World} {L : Nat} {g : Nat -> Nat} (h : Arr8 W L g) (a b : Nat) : (put8 W L a b).cell? ⟨L,0,none⟩ = some (.int .u64 a) ∧ (put8 W L a b).cell? ⟨L,1,none⟩ = some (.int .u64 b) ∧ (put8 W L a b).cell? ⟨L,2,none⟩ = some (.int .u64 0) ∧ (put8 W L a b).cell? ⟨L,3,none⟩ = some (.int .u64 0) ∧ (put8 W L a b).cell? ⟨L,4,none⟩ = some (.int .u64 0) ∧ (put8 W L a b).cell? ⟨L,5,none⟩ = some (.int .u64 0) ∧ (put8 W L a b).cell? ⟨L,6,none⟩ = some (.int .u64 0) ∧ (put8 W L a b).cell? ⟨L,7,none⟩ = some (.int .u64 0) := by
 have h := (put8_line h a b).1
 exact ⟨h 0 (by decide),h 1 (by decide),h 2 (by decide),h 3 (by decide),h 4 (by decide),h 5 (by decide),h 6 (by decide),h 7 (by decide)⟩
theorem put8_zero {W : World} {L : Nat} {g : Nat -> Nat} (h : Arr8 W L g) : ((((((((W.setCell ⟨L,0,none⟩ (.int .u64 0)).setCell ⟨L,1,none⟩ (.int .u64 0)).setCell ⟨L,2,none⟩ (.int .u64 0)).setCell ⟨L,3,none⟩ (.int .u64 0)).setCell ⟨L,4,none⟩ (.int .u64 0)).setCell ⟨L,5,none⟩ (.int .u64 0)).setCell ⟨L,6,none⟩ (.int .u64 0)).setCell ⟨L,7,none⟩ (.int .u64 0)).cell? ⟨L,0,none⟩ = some (.int .u64 0) ∧ ((((((((W.setCell ⟨L,0,none⟩ (.int .u64 0)).setCell ⟨L,1,none⟩ (.int .u64 0)).setCell ⟨L,2,none⟩ (.int .u64 0)).setCell ⟨L,3,none⟩ (.int .u64 0)).setCell ⟨L,4,none⟩ (.int .u64 0)).setCell ⟨L,5,none⟩ (.int .u64 0)).setCell ⟨L,6,none⟩ (.int .u64 0)).setCell ⟨L,7,none⟩ (.int .u64 0)).cell? ⟨L,1,none⟩ = some (.int .u64 0) ∧ ((((((((W.setCell ⟨L,0,none⟩ (.int .u64 0)).setCell ⟨L,1,none⟩ (.int .u64 0)).setCell ⟨L,2,none⟩ (.int .u64 0)).setCell ⟨L,3,none⟩ (.int .u64 0)).setCell ⟨L,4,none⟩ (.int .u64 0)).setCell ⟨L,5,none⟩ (.int .u64 0)).setCell ⟨L,6,none⟩ (.int .u64 0)).setCell ⟨L,7,none⟩ (.int .u64 0)).cell? ⟨L,2,none⟩ = some (.int .u64 0) ∧ ((((((((W.setCell ⟨L,0,none⟩ (.int .u64 0)).setCell ⟨L,1,none⟩ (.int .u64 0)).setCell ⟨L,2,none⟩ (.int .u64 0)).setCell ⟨L,3,none⟩ (.int .u64 0)).setCell ⟨L,4,none⟩ (.int .u64 0)).setCell ⟨L,5,none⟩ (.int .u64 0)).setCell ⟨L,6,none⟩ (.int .u64 0)).setCell ⟨L,7,none⟩ (.int .u64 0)).cell? ⟨L,3,none⟩ = some (.int .u64 0) ∧ ((((((((W.setCell ⟨L,0,none⟩ (.int .u64 0)).setCell ⟨L,1,none⟩ (.int .u64 0)).setCell ⟨L,2,none⟩ (.int .u64 0)).setCell ⟨L,3,none⟩ (.int .u64 0)).setCell ⟨L,4,none⟩ (.int .u64 0)).setCell ⟨L,5,none⟩ (.int .u64 0)).setCell ⟨L,6,none⟩ (.int .u64 0)).setCell ⟨L,7,none⟩ (.int .u64 0)).cell? ⟨L,4,none⟩ = some (.int .u64 0) ∧ ((((((((W.setCell ⟨L,0,none⟩ (.int .u64 0)).setCell ⟨L,1,none⟩ (.int .u64 0)).setCell ⟨L,2,none⟩ (.int .u64 0)).setCell ⟨L,3,none⟩ (.int .u64 0)).setCell ⟨L,4,none⟩ (.int .u64 0)).setCell ⟨L,5,none⟩ (.int .u64 0)).setCell ⟨L,6,none⟩ (.int .u64 0)).setCell ⟨L,7,none⟩ (.int .u64 0)).cell? ⟨L,5,none⟩ = some (.int .u64 0) ∧ ((((((((W.setCell ⟨L,0,none⟩ (.int .u64 0)).setCell ⟨L,1,none⟩ (.int .u64 0)).setCell ⟨L,2,none⟩ (.int .u64 0)).setCell ⟨L,3,none⟩ (.int .u64 0)).setCell ⟨L,4,none⟩ (.int .u64 0)).setCell ⟨L,5,none⟩ (.int .u64 0)).setCell ⟨L,6,none⟩ (.int .u64 0)).setCell ⟨L,7,none⟩ (.int .u64 0)).cell? ⟨L,6,none⟩ = some (.int .u64 0) ∧ ((((((((W.setCell ⟨L,0,none⟩ (.int .u64 0)).setCell ⟨L,1,none⟩ (.int .u64 0)).setCell ⟨L,2,none⟩ (.int .u64 0)).setCell ⟨L,3,none⟩ (.int .u64 0)).setCell ⟨L,4,none⟩ (.int .u64 0)).setCell ⟨L,5,none⟩ (.int .u64 0)).setCell ⟨L,6,none⟩ (.int .u64 0)).setCell ⟨L,7,none⟩ (.int .u64 0)).cell? ⟨L,7,none⟩ = some (.int .u64 0) := put8_cells h 0 0
theorem put8_words {W : World} {L : Nat} {g : Nat -> Nat} (h : Arr8 W L g) (a b : Nat) : ((((((((W.setCell ⟨L,0,none⟩ (.int .u64 (a : Nat))).setCell ⟨L,1,none⟩ (.int .u64 (b : Nat))).setCell ⟨L,2,none⟩ (.int .u64 0)).setCell ⟨L,3,none⟩ (.int .u64 0)).setCell ⟨L,4,none⟩ (.int .u64 0)).setCell ⟨L,5,none⟩ (.int .u64 0)).setCell ⟨L,6,none⟩ (.int .u64 0)).setCell ⟨L,7,none⟩ (.int .u64 0)).cell? ⟨L,0,none⟩ = some (.int .u64 (a : Nat)) ∧ ((((((((W.setCell ⟨L,0,none⟩ (.int .u64 (a : Nat))).setCell ⟨L,1,none⟩ (.int .u64 (b : Nat))).setCell ⟨L,2,none⟩ (.int .u64 0)).setCell ⟨L,3,none⟩ (.int .u64 0)).setCell ⟨L,4,none⟩ (.int .u64 0)).setCell ⟨L,5,none⟩ (.int .u64 0)).setCell ⟨L,6,none⟩ (.int .u64 0)).setCell ⟨L,7,none⟩ (.int .u64 0)).cell? ⟨L,1,none⟩ = some (.int .u64 (b : Nat)) ∧ ((((((((W.setCell ⟨L,0,none⟩ (.int .u64 (a : Nat))).setCell ⟨L,1,none⟩ (.int .u64 (b : Nat))).setCell ⟨L,2,none⟩ (.int .u64 0)).setCell ⟨L,3,none⟩ (.int .u64 0)).setCell ⟨L,4,none⟩ (.int .u64 0)).setCell ⟨L,5,none⟩ (.int .u64 0)).setCell ⟨L,6,none⟩ (.int .u64 0)).setCell ⟨L,7,none⟩ (.int .u64 0)).cell? ⟨L,2,none⟩ = some (.int .u64 0) ∧ ((((((((W.setCell ⟨L,0,none⟩ (.int .u64 (a : Nat))).setCell ⟨L,1,none⟩ (.int .u64 (b : Nat))).setCell ⟨L,2,none⟩ (.int .u64 0)).setCell ⟨L,3,none⟩ (.int .u64 0)).setCell ⟨L,4,none⟩ (.int .u64 0)).setCell ⟨L,5,none⟩ (.int .u64 0)).setCell ⟨L,6,none⟩ (.int .u64 0)).setCell ⟨L,7,none⟩ (.int .u64 0)).cell? ⟨L,3,none⟩ = some (.int .u64 0) ∧ ((((((((W.setCell ⟨L,0,none⟩ (.int .u64 (a : Nat))).setCell ⟨L,1,none⟩ (.int .u64 (b : Nat))).setCell ⟨L,2,none⟩ (.int .u64 0)).setCell ⟨L,3,none⟩ (.int .u64 0)).setCell ⟨L,4,none⟩ (.int .u64 0)).setCell ⟨L,5,none⟩ (.int .u64 0)).setCell ⟨L,6,none⟩ (.int .u64 0)).setCell ⟨L,7,none⟩ (.int .u64 0)).cell? ⟨L,4,none⟩ = some (.int .u64 0) ∧ ((((((((W.setCell ⟨L,0,none⟩ (.int .u64 (a : Nat))).setCell ⟨L,1,none⟩ (.int .u64 (b : Nat))).setCell ⟨L,2,none⟩ (.int .u64 0)).setCell ⟨L,3,none⟩ (.int .u64 0)).setCell ⟨L,4,none⟩ (.int .u64 0)).setCell ⟨L,5,none⟩ (.int .u64 0)).setCell ⟨L,6,none⟩ (.int .u64 0)).setCell ⟨L,7,none⟩ (.int .u64 0)).cell? ⟨L,5,none⟩ = some (.int .u64 0) ∧ ((((((((W.setCell ⟨L,0,none⟩ (.int .u64 (a : Nat))).setCell ⟨L,1,none⟩ (.int .u64 (b : Nat))).setCell ⟨L,2,none⟩ (.int .u64 0)).setCell ⟨L,3,none⟩ (.int .u64 0)).setCell ⟨L,4,none⟩ (.int .u64 0)).setCell ⟨L,5,none⟩ (.int .u64 0)).setCell ⟨L,6,none⟩ (.int .u64 0)).setCell ⟨L,7,none⟩ (.int .u64 0)).cell? ⟨L,6,none⟩ = some (.int .u64 0) ∧ ((((((((W.setCell ⟨L,0,none⟩ (.int .u64 (a : Nat))).setCell ⟨L,1,none⟩ (.int .u64 (b : Nat))).setCell ⟨L,2,none⟩ (.int .u64 0)).setCell ⟨L,3,none⟩ (.int .u64 0)).setCell ⟨L,4,none⟩ (.int .u64 0)).setCell ⟨L,5,none⟩ (.int .u64 0)).setCell ⟨L,6,none⟩ (.int .u64 0)).setCell ⟨L,7,none⟩ (.int .u64 0)).cell? ⟨L,7,none⟩ = some (.int .u64 0) := put8_cells h a b
theorem Arr8.all {W : World} {L : Nat} {f : Nat -> Nat} (h : Arr8 W L f) : W.cell? ⟨L,0,none⟩ = some (.int .u64 (f 0 : Nat)) ∧ W.cell? ⟨L,1,none⟩ = some (.int .u64 (f 1 : Nat)) ∧ W.cell? ⟨L,2,none⟩ = some (.int .u64 (f 2 : Nat)) ∧ W.cell? ⟨L,3,none⟩ = some (.int .u64 (f 3 : Nat)) ∧ W.cell? ⟨L,4,none⟩ = some (.int .u64 (f 4 : Nat)) ∧ W.cell? ⟨L,5,none⟩ = some (.int .u64 (f 5 : Nat)) ∧ W.cell? ⟨L,6,none⟩ = some (.int .u64 (f 6 : Nat)) ∧ W.cell? ⟨L,7,none⟩ = some (.int .u64 (f 7 : Nat)) :=
 ⟨h.1 0 (by decide),h.1 1 (by decide),h.1 2 (by decide),h.1 3 (by decide),h.1 4 (by decide),h.1 5 (by decide),h.1 6 (by decide),h.1 7 (by decide)⟩
set_option maxRecDepth 100000 in
set_option maxHeartbeats 4000000 in
theorem nodeWrite_any (k l t L : Nat) (W : World) (hk : k < 256) (hl : l <= 200) (ht : t < 1024) (hL : L < W.heap.size) (h : LineAt W L 0 0) :
  Calls Tryz.prog 199 #[encN k l t,.pointer (some ⟨L,0,none⟩)] W fun e W' => e = .returned (.tuple #[]) ∧ LineAt W' L (k + 256 * l) t ∧ Below L W W' := by
 have HLF := Lib.hid linksField_any
 have HPT := Lib.hid (fun W => wordPut_any k l W hk (by omega))
 have hu1 : IntKind.u64.wrap (k : Int) = (k : Int) := IntWalk.u64_in _ (by omega)
 have hu2 : IntKind.u64.wrap (l : Int) = (l : Int) := IntWalk.u64_in _ (by omega)
 have hu3 : IntKind.u64.wrap (t : Int) = (t : Int) := IntWalk.u64_in _ (by omega)
 have HA := Lib.hid h
 clear h
 generalize k + 256 * l = r at *
 unfold encFd at *
 unfold encN
 go_enter Tryz.func199,Tryz.ntmps199
 go_wp2_with fail
 obtain ⟨W0,hW0⟩ : ∃ W0,W.alloc (.cells #[.int .i64 k,.int .i64 l,.int .i64 t] 46) = W0 := ⟨_,rfl⟩
 have hsz0 : W.heap.size + 1 <= W0.heap.size := by rw [<- hW0];simp
 have hbW : Below W.heap.size W W0 := by rw [<- hW0];exact (Below.refl _ _).alloc (Nat.le_refl _) _
 have HS0 : Hid (∀ w1,Below (W.heap.size + 1) W0 w1 -> w1.cell? ⟨W.heap.size,0,none⟩ = some (.int .i64 k) ∧ w1.cell? ⟨W.heap.size,1,none⟩ = some (.int .i64 l) ∧ w1.cell? ⟨W.heap.size,2,none⟩ = some (.int .i64 t)) := fun w1 hw => by
  refine ⟨(hw.cell (p := ⟨W.heap.size,0,none⟩) (Nat.lt_succ_self _)).trans ?_,(hw.cell (p := ⟨W.heap.size,1,none⟩) (Nat.lt_succ_self _)).trans ?_,(hw.cell (p := ⟨W.heap.size,2,none⟩) (Nat.lt_succ_self _)).trans ?_⟩
  all_goals rw [<- hW0];simp
 rw [hW0]
 have hbz : Below (W.heap.size + 1) W0 W0.drew := (Below.refl _ _).drew
 clear hW0
 go_region_held3 (fun w1 => w1.cell? ⟨W.heap.size,0,none⟩ = some (.int .i64 k) ∧ w1.cell? ⟨W.heap.size,1,none⟩ = some (.int .i64 l) ∧ w1.cell? ⟨W.heap.size,2,none⟩ = some (.int .i64 t))
  (first | exact HS0.out _ hbz | assumption)
  ((first
   | (go_at_call 201;refine (HLF.out _).mono ?_;rintro e w2 ⟨rfl,hb2⟩;have hbz := hbz.trans (hb2.mono (Nat.le_trans hsz0 hbz.size)))
   | (go_at_call 200;refine (HPT.out _).mono ?_;rintro e w2 ⟨rfl,hb2⟩;have hbz := hbz.trans (hb2.mono (Nat.le_trans hsz0 hbz.size)))))
 all_goals
  obtain ⟨c0,c1,c2⟩ := HS0.out _ hbz
  have hA2 := HA.out.below (hbW.trans (hbz.mono (Nat.le_succ _))) hL
  have HA2 := Lib.hid hA2
  obtain ⟨a0,a1,a2,a3,a4,a5,a6,a7⟩ := hA2.all
  have f0 := hA2.2 0
  have f1 := hA2.2 1
  have f2 := hA2.2 2
  have f3 := hA2.2 3
  have f4 := hA2.2 4
  have f5 := hA2.2 5
  have f6 := hA2.2 6
  have f7 := hA2.2 7
  clear hA2
  go_wp2_with fail
  go_end0
  exact ⟨rfl,put8_line HA2.out r t,put8_below ((hbW.trans (hbz.mono (Nat.le_succ _))).mono (Nat.le_of_lt hL)) (Nat.le_refl _)⟩
end
section
open Go.RowKit
theorem cell_new (W : World) (cs : Array Value) (T : TypeId) (i : Nat) (v : Value) (h : cs[i]? = some v) : (W.alloc (.cells cs T)).cell? ⟨W.heap.size,i,none⟩ = some v := by
 rw [cell_of_row (W.alloc (.cells cs T)) W.heap.size i cs T (0,0) (World.alloc_heap_new _ _)];exact h
theorem arr8_new (W : World) (T : TypeId) : Arr8 (W.alloc (.cells #[.int .u64 0,.int .u64 0,.int .u64 0,.int .u64 0,.int .u64 0,.int .u64 0,.int .u64 0,.int .u64 0] T)) W.heap.size (fun _ => 0) := by
 refine ⟨fun i hi => cell_new W _ T i _ ?_,fun i => by simp⟩
 match i,hi with
 | 0,_ => rfl
 | 1,_ => rfl
 | 2,_ => rfl
 | 3,_ => rfl
 | 4,_ => rfl
 | 5,_ => rfl
 | 6,_ => rfl
 | 7,_ => rfl
def putW (W : World) (k l t : Int) : World :=
 (((W.alloc (.cells #[.func (.func 197) #[] #[],.func (.func 199) #[] #[],.func (.func 202) #[] #[]] 219)).alloc (.cells #[.int .i64 k,.int .i64 l,.int .i64 t] 46)).alloc (.cells #[.int .u64 0,.int .u64 0,.int .u64 0,.int .u64 0,.int .u64 0,.int .u64 0,.int .u64 0,.int .u64 0] 136)).alloc (.cells #[.int .u64 0,.int .u64 0,.int .u64 0,.int .u64 0,.int .u64 0,.int .u64 0,.int .u64 0,.int .u64 0] 274)
theorem putW_size (W : World) (k l t : Int) : (putW W k l t).heap.size = W.heap.size + 4 := by simp [putW]
theorem putW_below (W : World) (k l t : Int) : Below W.heap.size W (putW W k l t) :=
 ((((Below.refl _ _).alloc (Nat.le_refl _) _).alloc (by simp) _).alloc (by simp;omega) _).alloc (by simp;omega) _
theorem putW_out (W : World) (k l t : Int) : Arr8 (putW W k l t) (W.heap.size + 3) (fun _ => 0) := by
 have h := arr8_new (((W.alloc (.cells #[.func (.func 197) #[] #[],.func (.func 199) #[] #[],.func (.func 202) #[] #[]] 219)).alloc (.cells #[.int .i64 k,.int .i64 l,.int .i64 t] 46)).alloc (.cells #[.int .u64 0,.int .u64 0,.int .u64 0,.int .u64 0,.int .u64 0,.int .u64 0,.int .u64 0,.int .u64 0] 136)) 274
 simp only [World.size_alloc] at h
 exact h
theorem putW_res (W : World) (k l t : Int) : Arr8 (putW W k l t) (W.heap.size + 2) (fun _ => 0) := by
 have h := arr8_new ((W.alloc (.cells #[.func (.func 197) #[] #[],.func (.func 199) #[] #[],.func (.func 202) #[] #[]] 219)).alloc (.cells #[.int .i64 k,.int .i64 l,.int .i64 t] 46)) 136
 simp only [World.size_alloc] at h
 exact h.below (n := W.heap.size + 3) ((Below.refl _ _).alloc (by simp) _) (by omega)
theorem putW_x (W : World) (k l t : Int) : (putW W k l t).cell? ⟨W.heap.size + 1,0,none⟩ = some (.int .i64 k) ∧ (putW W k l t).cell? ⟨W.heap.size + 1,1,none⟩ = some (.int .i64 l) ∧ (putW W k l t).cell? ⟨W.heap.size + 1,2,none⟩ = some (.int .i64 t) := by
 have hb : ∀ W1 : World,W1.heap.size = W.heap.size + 1 -> ∀ i v,#[Value.int .i64 k,.int .i64 l,.int .i64 t][i]? = some v -> (((W1.alloc (.cells #[.int .i64 k,.int .i64 l,.int .i64 t] 46)).alloc (.cells #[.int .u64 0,.int .u64 0,.int .u64 0,.int .u64 0,.int .u64 0,.int .u64 0,.int .u64 0,.int .u64 0] 136)).alloc (.cells #[.int .u64 0,.int .u64 0,.int .u64 0,.int .u64 0,.int .u64 0,.int .u64 0,.int .u64 0,.int .u64 0] 274)).cell? ⟨W.heap.size + 1,i,none⟩ = some v := fun W1 h1 i v hv => by
  rw [<- h1]
  exact (((((Below.refl (W1.heap.size + 1) (W1.alloc (.cells #[.int .i64 k,.int .i64 l,.int .i64 t] 46))).alloc (by simp) _).alloc (by simp) _).cell (p := ⟨W1.heap.size,i,none⟩) (Nat.lt_succ_self _))).trans (cell_new W1 _ _ i v hv)
 exact ⟨hb _ (by simp) 0 _ rfl,hb _ (by simp) 1 _ rfl,hb _ (by simp) 2 _ rfl⟩
theorem putW_s (W : World) (k l t : Int) : (putW W k l t).cell? ⟨W.heap.size,1,none⟩ = some (.func (.func 199) #[] #[]) := by
 have hb := ((((Below.refl (W.heap.size + 1) (W.alloc (.cells #[.func (.func 197) #[] #[],.func (.func 199) #[] #[],.func (.func 202) #[] #[]] 219))).alloc (by simp) (.cells #[.int .i64 k,.int .i64 l,.int .i64 t] 46)).alloc (by simp) (.cells #[.int .u64 0,.int .u64 0,.int .u64 0,.int .u64 0,.int .u64 0,.int .u64 0,.int .u64 0,.int .u64 0] 136)).alloc (by simp) (.cells #[.int .u64 0,.int .u64 0,.int .u64 0,.int .u64 0,.int .u64 0,.int .u64 0,.int .u64 0,.int .u64 0] 274))
 exact (hb.cell (p := ⟨W.heap.size,1,none⟩) (Nat.lt_succ_self _)).trans (cell_new W _ _ 1 _ rfl)
set_option maxRecDepth 100000 in
set_option maxHeartbeats 2000000 in
theorem put_no (k l t : Int) (W : World) (hr : nodeRight k l t = false) :
  Calls Tryz.prog 195 #[shapeV,encN k l t] W fun e W' => e = .returned (.tuple #[encLn 0 0,.int .i64 2]) ∧ Below W.heap.size W W' := by
 have HR := Lib.hid (fun W => nodeRight_any k l t W)
 rw [hr] at HR
 unfold encN at *
 unfold shapeV
 go_enter Tryz.func195,Tryz.ntmps195
 go_wp2_with fail
 refine wp_scope_fwd 1 ?_
 go_wp2_with go_step3
 refine (HR.out _).mono ?_
 rintro e w2 ⟨rfl,hb2⟩
 have hb2 : Below (putW W k l t).heap.size (putW W k l t) w2 := hb2
 have hA := (putW_res W k l t).below hb2 (by rw [putW_size];omega)
 have HB := Lib.hid ((putW_below W k l t).trans (hb2.mono (by rw [putW_size];omega)))
 have HA := Lib.hid hA
 obtain ⟨a0,a1,a2,a3,a4,a5,a6,a7⟩ := hA.all
 have f0 := hA.2 0
 have f1 := hA.2 1
 have f2 := hA.2 2
 have f3 := hA.2 3
 have f4 := hA.2 4
 have f5 := hA.2 5
 have f6 := hA.2 6
 have f7 := hA.2 7
 clear hA hb2
 go_wp2_with go_step3
 refine fwd_goto _ rfl ?_
 go_wp2_with go_step3
 rw [fwd_ret]
 obtain ⟨g0,g1,g2,g3,g4,g5,g6,g7⟩ := put8_zero HA.out
 have HBF := Lib.hid (put8_below HB.out (L := W.heap.size + 2) (a := 0) (b := 0) (by omega))
 refine bodyPost_ret (v := .tuple #[encLn 0 0,.int .i64 2]) (by simp [results,Tryz.results195,go_sem,g0,g1,g2,g3,g4,g5,g6,g7,encLn]) rfl ⟨rfl,HBF.out⟩
theorem lineF_zero : lineF 0 0 = fun _ => 0 := by
 funext i
 unfold lineF
 split
 ·rfl
 ·split <;> rfl
set_option maxRecDepth 100000 in
set_option maxHeartbeats 2000000 in
theorem put_yes (k l t : Nat) (W : World) (hk : k < 256) (hl : l <= 200) (ht : t < 1024) (hr : nodeRight k l t = true) :
  Calls Tryz.prog 195 #[shapeV,encN k l t] W fun e W' => e = .returned (.tuple #[encLn (k + 256 * l) t,.int .i64 0]) ∧ Below W.heap.size W W' := by
 have HR := Lib.hid (fun W => nodeRight_any k l t W)
 have HW := Lib.hid (fun L W hL h => nodeWrite_any k l t L W hk hl ht hL h)
 rw [hr] at HR
 generalize k + 256 * l = r at *
 unfold encN at *
 unfold shapeV
 go_enter Tryz.func195,Tryz.ntmps195
 go_wp2_with fail
 apply wp_scope_straight
 go_wp2_with go_step3
 refine (HR.out _).mono ?_
 rintro e w2 ⟨rfl,hb2⟩
 have hb2 : Below (putW W k l t).heap.size (putW W k l t) w2 := hb2
 have hs2 : W.heap.size + 4 <= w2.heap.size := by have := hb2.size;rw [putW_size] at this;exact this
 have HA := Lib.hid ((putW_res W k l t).below hb2 (by rw [putW_size];omega))
 have hO : LineAt w2 (W.heap.size + 3) 0 0 := by unfold LineAt;rw [lineF_zero];exact (putW_out W k l t).below hb2 (by rw [putW_size];omega)
 have HB := Lib.hid ((putW_below W k l t).trans (hb2.mono (by rw [putW_size];omega)))
 have HO := Lib.hid hO
 obtain ⟨x0,x1,x2⟩ := putW_x W k l t
 have y0 := (hb2.cell (p := ⟨W.heap.size + 1,0,none⟩) (by rw [putW_size];show W.heap.size + 1 < _;omega)).trans x0
 have y1 := (hb2.cell (p := ⟨W.heap.size + 1,1,none⟩) (by rw [putW_size];show W.heap.size + 1 < _;omega)).trans x1
 have y2 := (hb2.cell (p := ⟨W.heap.size + 1,2,none⟩) (by rw [putW_size];show W.heap.size + 1 < _;omega)).trans x2
 have y3 := (hb2.cell (p := ⟨W.heap.size,1,none⟩) (by rw [putW_size];show W.heap.size < _;omega)).trans (putW_s W k l t)
 clear hO hb2 x0 x1 x2
 go_wp2_with go_step3
 refine (HW.out (W.heap.size + 3) w2 (by omega) HO.out).mono ?_
 rintro e w3 ⟨rfl,hl3,hb3⟩
 clear y0 y1 y2 y3
 have hA := HA.out.below hb3 (by omega)
 have HA3 := Lib.hid hA
 have HB3 := Lib.hid (HB.out.trans (hb3.mono (by omega)))
 obtain ⟨a0,a1,a2,a3,a4,a5,a6,a7⟩ := hA.all
 obtain ⟨b0,b1,b2,b3,b4,b5,b6,b7⟩ := hl3.all
 have f0 := hA.2 0
 have f1 := hA.2 1
 have f2 := hA.2 2
 have f3 := hA.2 3
 have f4 := hA.2 4
 have f5 := hA.2 5
 have f6 := hA.2 6
 have f7 := hA.2 7
 clear hA hl3 hb3
 have e0 : lineF r t 0 = r := rfl
 have e1 : lineF r t 1 = t := rfl
 have e2 : lineF r t 2 = 0 := rfl
 have e3 : lineF r t 3 = 0 := rfl
 have e4 : lineF r t 4 = 0 := rfl
 have e5 : lineF r t 5 = 0 := rfl
 have e6 : lineF r t 6 = 0 := rfl
 have e7 : lineF r t 7 = 0 := rfl
 rw [e0] at b0
 rw [e1] at b1
 rw [e2] at b2
 rw [e3] at b3
 rw [e4] at b4
 rw [e5] at b5
 rw [e6] at b6
 rw [e7] at b7
 go_wp2_with go_step3
 rw [Exit.noGoto_ret]
 obtain ⟨g0,g1,g2,g3,g4,g5,g6,g7⟩ := put8_words HA3.out r t
 have HBF := Lib.hid (put8_below HB3.out (L := W.heap.size + 2) (a := r) (b := t) (by omega))
 refine bodyPost_ret (v := .tuple #[encLn r t,.int .i64 0]) (by simp [results,Tryz.results195,go_sem,g0,g1,g2,g3,g4,g5,g6,g7,encLn]) rfl ⟨rfl,HBF.out⟩
end
section
open Go.RowKit
def byteOf (a i : Nat) : UInt8 := UInt8.ofNat (a / 2 ^ (8 * i))
def byte8 (a : Nat) : List UInt8 := (List.range 8).map (byteOf a)
theorem byte8_length (a : Nat) : (byte8 a).length = 8 := by simp [byte8]
theorem byte8_take (a k : Nat) (h : k < 8) : (byte8 a).take (k + 1) = (byte8 a).take k ++ [byteOf a k] := by
 rw [byte8,<- List.map_take,<- List.map_take,List.take_range,List.take_range,Nat.min_eq_left (by omega),Nat.min_eq_left (by omega),List.range_succ,List.map_append];rfl
set_option maxRecDepth 100000 in
set_option maxHeartbeats 2000000 in
theorem bytes8_any (a b off c : Nat) (w : World) (_ha : a < 18446744073709551616) (hc : w.cell? ⟨b,off,none⟩ = some (.int .u64 (a : Nat))) :
  Calls Tryz.prog 121 #[.slice (some ⟨b,off,none⟩) 1 c,.int .i64 8] w fun e w' => ∃ g,e = .returned (.tuple #[.slice (some ⟨g,0,none⟩) 8 8,.int .i64 0]) ∧ w.heap.size <= g ∧ RowAt w' (some ⟨g,0,none⟩) ((byte8 a).map encB) ∧ Below w.heap.size w w' := by
 obtain ⟨i0,hi,hz0,hz1,hz2⟩ := info_parts Tryz.infoU8
 have hbw : b < w.heap.size := World.block_lt_of_cell? w ⟨b,off,none⟩ hc
 go_enter Tryz.func121,Tryz.ntmps121
 go_wp2_with fail
 apply wp_scope_straight
 go_wp2_with go_step3
 refine wp_loop_rounds 2 ?_
 rw [rounds_succ]
 go_wp2_with fail
 go_loopw [4,36] (fun v i wr => ∃ k : Nat,k <= 8 ∧ i = .int .i64 k ∧ wr.ownsRow w.heap.size 5 1 v k (((byte8 a).take k).map encB) ∧ Below w.heap.size w wr) (fun _ i _ => 8 - (intOf i).toNat)
 case atStart => exact ⟨0,Nat.zero_le _,rfl,World.ownsRow_nil _ _ _ _,Below.refl _ _⟩
 case round =>
  obtain ⟨k,hk,rfl,hown,hb⟩ := hrel
  by_cases hlt : k < 8
  ·have HTS := Lib.hid (byte8_take a k hlt)
   have hsz := hb.size
   have HLT := Lib.hid hown.lt
   have HOWN := Lib.hid hown
   have HB := Lib.hid hb
   have hx : (a : Int) / 2 ^ (8 * k) % 256 = ((byteOf a k).toNat : Nat) := by
    have e : ((a : Int) / 2 ^ (8 * k) % 256) = ((a / 2 ^ (8 * k) % 256 : Nat) : Int) := by
     have h2 : ((2 : Int) ^ (8 * k)) = ((2 ^ (8 * k) : Nat) : Int) := by simp
     rw [h2];exact_mod_cast rfl
    rw [e,byteOf];simp
   have HE : Hid (encB (byteOf a k) = .int .u8 ((byteOf a k).toNat : Nat)) := rfl
   generalize (byteOf a k).toNat = y at *
   clear hown hb
   go_wp2_with (at_builtin;refine wpList_append_own _ rfl _ _ 26 rfl w.heap.size 5 i0 (.int .u8 0) 1 1 Tryz.underlyingBytes hi hz0 hz1 hz2 rfl (by decide) _ _ _ rfl (HOWN.out.alloc _) ⟨wr.heap.size,0,none⟩ 1 1 [.int .u8 y] rfl rfl ?c1 ?c2 ?c3 ?c4 ?c5 ?_)
   case c1 =>
    intro j u hj
    match j,hj with
    | 0,hj => simp at hj;subst hj;simp [Addr.add]
   case c2 => intro u hu;simp at hu;subst hu;rfl
   case c3 => unfold maxLen;omega
   case c4 => omega
   case c5 => simp;omega
   intro v' w1 hown' hgrow _
   have hb1 : Below w.heap.size w w1 := (HB.out.alloc hsz _).grown hgrow (by simp;omega) (fun j e => (HLT.out j e).1)
   have HO1 : Hid (w1.ownsRow w.heap.size 5 1 v' (k + 1) (((byte8 a).take (k + 1)).map encB)) := by
    rw [Hid,HTS.out,List.map_append,List.map_cons,HE.out,List.map_take];exact hown'
   clear hgrow hown' HOWN HB HLT hx
   go_wp2_with fail
   go_roundw
   case rel => exact ⟨k + 1,by omega,by go_num,HO1.out,hb1⟩
   case measure => simp [intOf];omega
  ·have hk8 : k = 8 := by omega
   subst hk8
   rw [List.take_of_length_le (by rw [byte8_length];omega)] at hown
   obtain ⟨g,cap,rfl⟩ := ownsRow_succ hown
   obtain ⟨A',cc,e,h8c,hcm⟩ := owns_slice hown
   injection e with eA _ e
   subst eA
   subst e
   have HR := Lib.hid (row_of_own hown)
   have hg := (hown.lt g rfl)
   have HB := Lib.hid hb
   have HCF := Lib.hid (fun A cc W => AnyE.slices_ContainsFunc_empty Tryz.containsByte A cc (.func (.func 180) #[] #[]) W)
   clear hown hb
   by_cases hcap : cap = 8
   ·subst hcap
    go_wp2_with fail
    rw [rounds_succ]
    go_wp2_with (first | go_step3 | (go_at_call 122;refine (HCF.out _ _ _).mono ?_;rintro e w' ⟨rfl,rfl⟩))
    rw [Exit.noGoto_ret]
    go_ret2
    exact ⟨g,rfl,hg.1,HR.out,HB.out⟩
   ·have hc2 : (cap == 8) = false := by rw [beq_eq_false_iff_ne];exact hcap
    have hc3 : ¬ cap <= 8 := by omega
    go_wp2_with fail
    rw [rounds_succ]
    go_wp2_with (first | go_step3 | (go_at_call 122;refine (HCF.out _ _ _).mono ?_;rintro e w' ⟨rfl,rfl⟩))
    rw [Exit.noGoto_ret]
    go_ret2
    exact ⟨g,rfl,hg.1,HR.out,HB.out⟩
end
end Go.Proofs.YtdpooagnbmpinaaGreatDoor
