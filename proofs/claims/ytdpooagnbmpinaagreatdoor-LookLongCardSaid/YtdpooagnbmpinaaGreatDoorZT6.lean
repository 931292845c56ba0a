import Derived.Test.YtdpooagnbmpinaaGreatDoorZT4
import Derived.Test.YtdpooagnbmpinaaGreatDoorZW1
import Derived.Test.YtdpooagnbmpinaaGreatDoorZGX
namespace Go.Proofs.YtdpooagnbmpinaaGreatDoor
section
open Go.RowKit Go.Maps Go.WideMaps
attribute [local go_sem] Oper.semAt_some
theorem found1_any (K : Nat) (k0 : Value) (w : World) (hc : w.cell? ⟨K,0,none⟩ = some k0) (hf : w.frozen? ⟨K,0,none⟩ = false) :
  Calls Tryz.prog 173 #[.pointer (some ⟨K,0,none⟩)] w fun e w' => e = .returned (.tuple #[]) ∧ w' = w.setCell ⟨K,0,none⟩ (.int .i64 0) := by
 go_enter Tryz.func173,Tryz.ntmps173
 go_wp2
 go_end0
 exact ⟨rfl,rfl⟩
theorem leaves_congr {P : Program} {fn : Func} {t1 t2 : Array Value} {R : Ending -> World -> Prop} (h : results fn t1 = results fn t2) : ∀ (ds : List Deferred) (u : FrameMode) (w : World),Leaves P fn t1 R ds u w -> Leaves P fn t2 R ds u w
 | [],u,w,hl => by
  cases u with
  | run => exact hl
  | returning => obtain ⟨v,h1,h2⟩ := hl;exact ⟨v,by rw [<- h];exact h1,h2⟩
  | panicking c => exact hl
 | d :: ds,u,w,hl => by
  obtain ⟨h1,fv,cap,f,args,h2,h3,h4⟩ := hl
  refine ⟨h1,fv,cap,f,args,h2,h3,h4.mono fun e u' w' he => ?_⟩
  cases e with
  | returned v => exact leaves_congr h ds _ _ he
  | panicked c => exact leaves_congr h ds _ _ he
  | outgrown => exact he
theorem found_put (d : Nat) (h6 : d ≠ 6) (h7 : d ≠ 7) (v : Value) (tmps : Array Value) : results Tryz.f109 (tmps.setIfInBounds d v) = results Tryz.f109 tmps := by
 have e6 : (tmps.setIfInBounds d v)[6]? = tmps[6]? := by
  simp [Array.getElem?_setIfInBounds,h6]
 have e7 : (tmps.setIfInBounds d v)[7]? = tmps[7]? := by
  simp [Array.getElem?_setIfInBounds,h7]
 unfold results
 rw [Tryz.results109]
 simp [e6,e7]
theorem found_out (d : Nat) (h6 : d ≠ 6) (h7 : d ≠ 7) (v : Value) {R : Ending -> World -> Prop} (c : List PanicEntry) (a : Act) (w : World) (h : bodyPostD Tryz.prog Tryz.f109 R (.panic c) (a.put (some d) v) w) : bodyPostD Tryz.prog Tryz.f109 R (.panic c) a w :=
 leaves_congr (found_put d h6 h7 v a.tmps) _ _ _ h
def kindT (g : GrP) (root : Nat) (s : List UInt8) : Nat × Int :=
 if (readP s).1 ≠ 0 then (0,(readP s).1) else
  match walkG g (readP s).2 root with
  | (b,0) => ((match g b with | some nd => if nd.kids.isSome then 2 else 1 | none => 0),0)
  | (_,c) => (0,c)
set_option maxRecDepth 100000 in
set_option maxHeartbeats 4000000 in
theorem found_any (g : GrP) (T root : Nat) (s : ByteArray) (W : World) (hs : s.size < 4294967281) (h : GAt W g) (hr : (g root).isSome) (hT : W.cell? ⟨T,0,none⟩ = some (.pointer (some ⟨root,0,none⟩))) :
  Calls Tryz.prog 109 #[.pointer (some ⟨T,0,none⟩),.string s,.func (.func 110) #[] #[]] W fun e W' => e = .returned (.tuple #[.int .i64 (kindT g root (bytesOf s)).1,.int .i64 (kindT g root (bytesOf s)).2]) ∧ Below W.heap.size W W' := by
 have hmf : ∀ (fn : Fn) (first cap : Array Value) (w : World),(Instr.makeFunc fn first cap).run Tryz.prog w = .ok (.func fn first cap) w := fun _ _ _ _ => rfl
 have hmx : Tryz.prog.follows .mixedOrders = true := by kernel_rfl
 have hTl : T < W.heap.size := World.block_lt_of_cell? W ⟨T,0,none⟩ hT
 obtain ⟨res,hres⟩ : ∃ res,kindT g root (bytesOf s) = res := ⟨_,rfl⟩
 rw [hres]
 have HRES := Lib.hid hres
 obtain ⟨W0,hW0⟩ : ∃ W0,((W.alloc (.cells #[.int .i64 0] 30)).alloc (.cells #[.int .i64 0] 29)).alloc (.cells #[.string s] 9) = W0 := ⟨_,rfl⟩
 have hb0 : Below W.heap.size W W0 := by rw [<- hW0];exact ((((Below.refl _ _).alloc (Nat.le_refl _) _).alloc (by simp) _).alloc (by simp;omega) _)
 have hs0 : W0.heap.size = W.heap.size + 3 := by rw [<- hW0];simp
 have HCK : Hid (CellsAt W0 W.heap.size 1 (fun _ => .int .i64 0)) := by
  rw [Hid,<- hW0]
  exact (cellsAt_new W #[.int .i64 0] 30 1 _ fun i hi => by rw [show i = 0 from by omega];rfl).below (m := W.heap.size + 1) (((Below.refl _ _).alloc (by simp) _).alloc (by simp) _) (by omega)
 have HCE : Hid (CellsAt W0 (W.heap.size + 1) 1 (fun _ => .int .i64 0)) := by
  rw [Hid,<- hW0]
  have := cellsAt_new (W.alloc (.cells #[.int .i64 0] 30)) #[.int .i64 0] 29 1 (fun _ => .int .i64 0) fun i hi => by rw [show i = 0 from by omega];rfl
  rw [show (W.alloc (.cells #[.int .i64 0] 30)).heap.size = W.heap.size + 1 from by simp] at this
  exact this.below (m := W.heap.size + 2) ((Below.refl _ _).alloc (by simp) _) (by omega)
 have hcs : W0.cell? ⟨W.heap.size + 1 + 1,0,none⟩ = some (.string s) := by
  rw [<- hW0]
  have := cell_new ((W.alloc (.cells #[.int .i64 0] 30)).alloc (.cells #[.int .i64 0] 29)) #[.string s] 9 0 _ rfl
  rw [show ((W.alloc (.cells #[.int .i64 0] 30)).alloc (.cells #[.int .i64 0] 29)).heap.size = W.heap.size + 1 + 1 from by simp] at this
  exact this
 have hT0 : W0.cell? ⟨T,0,none⟩ = some (.pointer (some ⟨root,0,none⟩)) := (hb0.cell (p := ⟨T,0,none⟩) hTl).trans hT
 have HRD := Lib.hid (tread_any T root (W.heap.size + 1 + 1) s W0 hs hT0 hcs)
 have HG0 := Lib.hid (h.below hb0)
 have HB0 := Lib.hid hb0
 have HW0 := Lib.hid hW0
 clear hW0 hb0 h hres hT
 unfold ReadT at HRD
 by_cases hz : (readP (bytesOf s)).1 = 0
 ·rw [if_pos hz] at HRD
  go_enter_defers Tryz.func109,Tryz.ntmps109
  go_wp2_with (first
   | (go_at_call 174;rw [HW0.out];refine HRD.out.mono ?_;rintro e w2 ⟨rfl,hb2⟩))
  have hG2 := HG0.out.below hb2
  have hT2 : w2.cell? ⟨T,0,none⟩ = some (.pointer (some ⟨root,0,none⟩)) := (hb2.cell (p := ⟨T,0,none⟩) (by show T < W0.heap.size;omega)).trans hT0
  have hs2 : W.heap.size + 3 <= w2.heap.size := by have := hb2.size;omega
  have HS := Lib.hid (tsplit_any s w2.drew hs)
  unfold SplitT at HS
  simp only [hz,if_true] at HS
  have hS0 : w2.drew.cell? ⟨T,0,none⟩ = some (.pointer (some ⟨root,0,none⟩)) := hT2
  refine (wpIn_wide (n := 10)).1 ?_
  refine whichever_region (fun w => w.cell? ⟨T,0,none⟩ = some (.pointer (some ⟨root,0,none⟩))) [9,10] hmx ?_
  refine whichever_take 0 (.func (.func 110) #[] #[]) [9,10] rfl (by kernel_rfl) (fun _ _ _ h => found_out 13 (by decide) (by decide) _ _ _ _ h) hS0 (by rfl) (fun w hw => ?_) ?_
  ·constructor <;> go_simp
  refine whichever_take 1 (.pointer (some ⟨T,0,none⟩)) [9,10] rfl (by kernel_rfl) (fun _ _ _ h => found_out 14 (by decide) (by decide) _ _ _ _ h) hS0 (by rfl) (fun w hw => ?_) ?_
  ·constructor <;> go_simp
  refine whichever_take 2 (.pointer (some ⟨T,0,none⟩)) [9,10] rfl (by kernel_rfl) (fun _ _ _ h => found_out 15 (by decide) (by decide) _ _ _ _ h) hS0 (by rfl) (fun w hw => ?_) ?_
  ·constructor <;> go_simp
  refine whichever_take 3 (.pointer (some ⟨T,0,none⟩)) [9,10] rfl (by kernel_rfl) (fun _ _ _ h => found_out 16 (by decide) (by decide) _ _ _ _ h) hS0 (by rfl) (fun w hw => ?_) ?_
  ·constructor <;> go_simp
  refine whichever_take 4 (.pointer (some ⟨root,0,none⟩)) [9,10] rfl (by kernel_rfl) (fun _ _ _ h => found_out 17 (by decide) (by decide) _ _ _ _ h) hS0 (by rfl) (fun w hw => ?_) ?_
  ·constructor <;> go_simp
  refine whichever_take 5 (.string s) [9,10] rfl (by kernel_rfl) (fun _ _ _ h => found_out 18 (by decide) (by decide) _ _ _ _ h) hS0 (by rfl) (fun w hw => ?_) ?_
  ·constructor <;> go_simp
  refine whichever_next 6 rfl (by kernel_rfl) (by rfl) ?_
  go_simp
  refine ⟨trivial,callsIn_wide.2 (HS.out.mono ?_)⟩
  rintro e w3 ⟨⟨A,c,rfl,hc1,hc2,hrow⟩,hb3⟩
  have hT3 : w3.cell? ⟨T,0,none⟩ = some (.pointer (some ⟨root,0,none⟩)) := (hb3.cell (p := ⟨T,0,none⟩) (by show T < w2.heap.size;omega)).trans hT2
  refine ⟨hT3,?_⟩
  have hG3 : GAt w3 g := hG2.below ((Below.refl w2.heap.size w2).drew.trans hb3)
  have hfine : (readP (bytesOf s)).2.length <= 16 ∧ ∀ x ∈ (readP (bytesOf s)).2,x.length <= 40 := by
   rcases readP_cases (bytesOf s) with h | h
   ·exact h.2.1
   ·rw [h.2];exact ⟨by simp,by simp⟩
  have hlen1 : (readP (bytesOf s)).2.length <= 100000 := by have := hfine.1;omega
  have hlen2 : ∀ x ∈ (readP (bytesOf s)).2,x.length <= 100000 := fun x hx => by have := hfine.2 x hx;omega
  have HW := Lib.hid (twalked_any g (readP (bytesOf s)).2 A (readP (bytesOf s)).2.length c root w3 hG3 hr rfl hlen1 hlen2 hrow)
  have hbe : Below W0.heap.size W0 w3 := hb2.trans (((Below.refl w2.heap.size w2).drew.trans hb3).mono hb2.size)
  refine whichever_next 7 rfl (by kernel_rfl) (by rfl) ?_
  go_simp
  refine ⟨trivial,callsIn_wide.2 (HW.out.mono ?_)⟩
  rintro e w4 ⟨he,hsome,rfl⟩
  rcases hwg : walkG g (readP (bytesOf s)).2 root with ⟨b,cc⟩
  rw [hwg] at he hsome
  simp only at he hsome
  by_cases hcc : cc = 0
  ·subst hcc
   rw [if_pos rfl] at he
   subst he
   obtain ⟨nd,hnd⟩ := Option.isSome_iff_exists.1 (hsome rfl)
   have HND := Lib.hid (tkind_any b nd w4 (hG3.node b nd hnd))
   have HR2 : Hid (res = ((if nd.kids.isSome then 2 else 1),0)) := by
    rw [Hid,<- HRES.out];unfold kindT;rw [if_neg (by rw [hz];exact fun h => h rfl),hwg];simp only;rw [hnd]
   simp only
   refine ⟨hT3,?_⟩
   refine whichever_next 8 rfl (by kernel_rfl) (by rfl) ?_
   go_simp
   obtain ⟨kn,hkn⟩ : ∃ kn : Nat,(if nd.kids.isSome then 2 else 1) = kn := ⟨_,rfl⟩
   have HND2 : Hid (Calls Tryz.prog 110 #[.pointer (some ⟨b,0,none⟩)] w4 fun e W' => e = .returned (.int .i64 kn) ∧ W' = w4) := by
    rw [Hid,<- hkn]
    refine HND.out.mono ?_
    rintro e w5 ⟨rfl,rfl⟩
    refine ⟨?_,rfl⟩
    cases nd.kids.isSome <;> rfl
   rw [hkn] at HR2
   refine ⟨trivial,callsIn_wide.2 (HND2.out.mono ?_)⟩
   rintro e w5 ⟨rfl,rfl⟩
   refine ⟨hT3,?_⟩
   have hE := HCE.out.below hbe (by omega)
   have hK := HCK.out.below hbe (by omega)
   have k0 := hK.1 0 (by omega)
   have k1 := hK.2 0
   have e0 := hE.1 0 (by omega)
   have e1 := hE.2 0
   refine whichever_next 9 rfl (by kernel_rfl) (by rfl) ?_
   go_simp
   refine whichever_next 10 rfl (by kernel_rfl) (by rfl) ?_
   go_simp
   refine whichever_end (by kernel_rfl) ?_
   rename_i K hK2
   refine hK2 _ _ ?_
   go_wp2_with fail
   refine leaves_cons (f := 172) (args := #[.pointer (some ⟨W.heap.size + 1,0,none⟩),.func (.func 173) #[] #[.pointer (some ⟨W.heap.size,0,none⟩)]]) (by simp) (by simp [go_sem]) ?_
   refine (tree_catches.idle _ _ _).mono ?_
   rintro e u' w6 ⟨rfl,rfl,rfl⟩
   have k3 : ((w5.setCell ⟨W.heap.size,0,none⟩ (.int .i64 kn)).setCell ⟨W.heap.size + 1,0,none⟩ (.int .i64 0)).cell? ⟨W.heap.size,0,none⟩ = some (.int .i64 kn) :=
    (World.cell?_setCell_other _ _ _ _ (by intro e;injection e with e;omega)).trans (World.cell?_setCell_same' _ _ _ (by rw [k0];rfl))
   have e3 : ((w5.setCell ⟨W.heap.size,0,none⟩ (.int .i64 kn)).setCell ⟨W.heap.size + 1,0,none⟩ (.int .i64 0)).cell? ⟨W.heap.size + 1,0,none⟩ = some (.int .i64 0) :=
    World.cell?_setCell_same' _ _ _ (by rw [World.cell?_setCell_other _ _ _ _ (by intro e;injection e with e;omega),e0];rfl)
   have b3 : Below W.heap.size W ((w5.setCell ⟨W.heap.size,0,none⟩ (.int .i64 kn)).setCell ⟨W.heap.size + 1,0,none⟩ (.int .i64 0)) :=
    ((HB0.out.trans (hbe.mono (by omega))).setCell (Nat.le_refl _) _).setCell (by show W.heap.size <= W.heap.size + 1;omega) _
   generalize (w5.setCell ⟨W.heap.size,0,none⟩ (.int .i64 kn)).setCell ⟨W.heap.size + 1,0,none⟩ (.int .i64 0) = w6 at *
   simp [Leaves,settle,results,Tryz.results109,go_sem,e3,k3]
   exact ⟨by rw [HR2.out];exact ⟨rfl,rfl⟩,b3⟩
  ·rw [if_neg hcc] at he
   subst he
   have HR2 : Hid (res = (0,(cc : Int))) := by
    rw [Hid,<- HRES.out];unfold kindT;rw [if_neg (by rw [hz];exact fun h => h rfl),hwg]
    cases cc with
    | zero => exact absurd rfl hcc
    | succ n => rfl
   simp only
   have hE := HCE.out.below hbe (by omega)
   have hK := HCK.out.below hbe (by omega)
   have hKl : W.heap.size < (w4).heap.size := by have := (hbe).size;omega
   refine leaves_cons (f := 172) (args := #[.pointer (some ⟨W.heap.size + 1,0,none⟩),.func (.func 173) #[] #[.pointer (some ⟨W.heap.size,0,none⟩)]]) (by simp) (by simp [go_sem]) ?_
   refine (tree_catches.err (W.heap.size + 1) 173 #[.pointer (some ⟨W.heap.size,0,none⟩)] (cc : Int) [] _ _ w4 (hE.1 0 (by omega)) (hE.2 0) (enters_of Tryz.func173 (by kernel_rfl) rfl _) (found1_any W.heap.size _ _ ((hK.set (B := W.heap.size + 1) (i := 0) (v := .int .i64 (cc : Int)) (by omega)).1 0 (by omega)) ((hK.set (B := W.heap.size + 1) (i := 0) (v := .int .i64 (cc : Int)) (by omega)).2 0))).mono ?_
   rintro e u' w5 ⟨rfl,rfl,rfl⟩
   have e3 : (((w4).setCell ⟨W.heap.size + 1,0,none⟩ (.int .i64 (cc : Int))).setCell ⟨W.heap.size,0,none⟩ (.int .i64 0)).cell? ⟨W.heap.size + 1,0,none⟩ = some (.int .i64 (cc : Int)) :=
    (World.cell?_setCell_other _ _ _ _ (by intro e;injection e with e;omega)).trans (World.cell?_setCell_same' _ _ _ (by rw [hE.1 0 (by omega)];rfl))
   have k3 : (((w4).setCell ⟨W.heap.size + 1,0,none⟩ (.int .i64 (cc : Int))).setCell ⟨W.heap.size,0,none⟩ (.int .i64 0)).cell? ⟨W.heap.size,0,none⟩ = some (.int .i64 0) :=
    World.cell?_setCell_same' _ _ _ (by rw [(hK.set (B := W.heap.size + 1) (i := 0) (v := .int .i64 (cc : Int)) (by omega)).1 0 (by omega)];rfl)
   have b3 : Below W.heap.size W (((w4).setCell ⟨W.heap.size + 1,0,none⟩ (.int .i64 (cc : Int))).setCell ⟨W.heap.size,0,none⟩ (.int .i64 0)) :=
    ((HB0.out.trans ((hbe).mono (by omega))).setCell (by show W.heap.size <= W.heap.size + 1;omega) _).setCell (Nat.le_refl _) _
   generalize ((w4).setCell ⟨W.heap.size + 1,0,none⟩ (.int .i64 (cc : Int))).setCell ⟨W.heap.size,0,none⟩ (.int .i64 0) = w6 at *
   simp [Leaves,settle,results,Tryz.results109,go_sem,e3,k3]
   exact ⟨by rw [HR2.out];exact ⟨rfl,rfl⟩,b3⟩
 ·rw [if_neg hz] at HRD
  go_enter_defers Tryz.func109,Tryz.ntmps109
  go_wp2_with (first
   | (go_at_call 174;rw [HW0.out];refine HRD.out.mono ?_;rintro e w2 ⟨rfl,hb2⟩))
  have HR2 : Hid (res = (0,(readP (bytesOf s)).1)) := by
   rw [Hid,<- HRES.out];unfold kindT;rw [if_pos hz]
  have hE := HCE.out.below hb2 (by omega)
  have hK := HCK.out.below hb2 (by omega)
  have hKl : W.heap.size < (w2).heap.size := by have := (hb2).size;omega
  refine leaves_cons (f := 172) (args := #[.pointer (some ⟨W.heap.size + 1,0,none⟩),.func (.func 173) #[] #[.pointer (some ⟨W.heap.size,0,none⟩)]]) (by simp) (by simp [go_sem]) ?_
  refine (tree_catches.err (W.heap.size + 1) 173 #[.pointer (some ⟨W.heap.size,0,none⟩)] (readP (bytesOf s)).1 [] _ _ w2 (hE.1 0 (by omega)) (hE.2 0) (enters_of Tryz.func173 (by kernel_rfl) rfl _) (found1_any W.heap.size _ _ ((hK.set (B := W.heap.size + 1) (i := 0) (v := .int .i64 (readP (bytesOf s)).1) (by omega)).1 0 (by omega)) ((hK.set (B := W.heap.size + 1) (i := 0) (v := .int .i64 (readP (bytesOf s)).1) (by omega)).2 0))).mono ?_
  rintro e u' w5 ⟨rfl,rfl,rfl⟩
  have e3 : (((w2).setCell ⟨W.heap.size + 1,0,none⟩ (.int .i64 (readP (bytesOf s)).1)).setCell ⟨W.heap.size,0,none⟩ (.int .i64 0)).cell? ⟨W.heap.size + 1,0,none⟩ = some (.int .i64 (readP (bytesOf s)).1) :=
   (World.cell?_setCell_other _ _ _ _ (by intro e;injection e with e;omega)).trans (World.cell?_setCell_same' _ _ _ (by rw [hE.1 0 (by omega)];rfl))
  have k3 : (((w2).setCell ⟨W.heap.size + 1,0,none⟩ (.int .i64 (readP (bytesOf s)).1)).setCell ⟨W.heap.size,0,none⟩ (.int .i64 0)).cell? ⟨W.heap.size,0,none⟩ = some (.int .i64 0) :=
   World.cell?_setCell_same' _ _ _ (by rw [(hK.set (B := W.heap.size + 1) (i := 0) (v := .int .i64 (readP (bytesOf s)).1) (by omega)).1 0 (by omega)];rfl)
  have b3 : Below W.heap.size W (((w2).setCell ⟨W.heap.size + 1,0,none⟩ (.int .i64 (readP (bytesOf s)).1)).setCell ⟨W.heap.size,0,none⟩ (.int .i64 0)) :=
   ((HB0.out.trans ((hb2).mono (by omega))).setCell (by show W.heap.size <= W.heap.size + 1;omega) _).setCell (Nat.le_refl _) _
  generalize ((w2).setCell ⟨W.heap.size + 1,0,none⟩ (.int .i64 (readP (bytesOf s)).1)).setCell ⟨W.heap.size,0,none⟩ (.int .i64 0) = w6 at *
  simp [Leaves,settle,results,Tryz.results109,go_sem,e3,k3]
  exact ⟨by rw [HR2.out];exact ⟨rfl,rfl⟩,b3⟩
theorem kind_any (g : GrP) (T root : Nat) (s : ByteArray) (W : World) (hs : s.size < 4294967281) (h : GAt W g) (hr : (g root).isSome) (hT : W.cell? ⟨T,0,none⟩ = some (.pointer (some ⟨root,0,none⟩))) :
  Calls Tryz.prog 56 #[.pointer (some ⟨T,0,none⟩),.string s] W fun e W' => e = .returned (.tuple #[.int .i64 (kindT g root (bytesOf s)).1,.int .i64 (kindT g root (bytesOf s)).2]) ∧ Below W.heap.size W W' := by
 have HF := Lib.hid (found_any g T root s W hs h hr hT)
 clear h hr hT
 generalize kindT g root (bytesOf s) = r at *
 go_enter Tryz.func56,Tryz.ntmps56
 go_wp2_with (go_at_call 109;refine HF.out.mono ?_;rintro e w2 ⟨rfl,hb⟩)
 go_ret2
 exact ⟨rfl,hb⟩
end
section
open Go.RowKit Go.Maps Go.WideMaps
attribute [local go_sem] Oper.semAt_some
def gNew (r m : Nat) : GrP := fun n => if n = r then some ⟨some (m,.map []),[],1⟩ else none
theorem gNew_root (r m : Nat) : gNew r m r = some ⟨some (m,.map []),[],1⟩ := by unfold gNew;rw [if_pos rfl]
theorem kindT_new (r m : Nat) (s : List UInt8) : kindT (gNew r m) r s = if (readP s).1 ≠ 0 then (0,(readP s).1) else if (readP s).2 = [] then (2,0) else (0,202) := by
 unfold kindT
 split
 ·rfl
 ·rename_i hz
  cases hn : (readP s).2 with
  | nil => rw [if_pos rfl,walkG];simp only;rw [gNew_root];rfl
  | cons x l =>
   rw [if_neg (by simp),walkG,gNew_root];rfl
theorem tnew_any (W : World) :
  Calls Tryz.prog 55 #[] W fun e W' => e = .returned (.pointer (some ⟨W.heap.size + 2,0,none⟩)) ∧ GAt W' (gNew (W.heap.size + 1) W.heap.size) ∧ W'.cell? ⟨W.heap.size + 2,0,none⟩ = some (.pointer (some ⟨W.heap.size + 1,0,none⟩)) ∧ Below W.heap.size W W' := by
 have hmm := @run_makeMap Tryz.prog
 go_enter Tryz.func55,Tryz.ntmps55
 go_wp2
 go_ret
 obtain ⟨W1,hW1⟩ : ∃ W1,W.alloc (.map #[] 0) = W1 := ⟨_,rfl⟩
 have h1 : W1.ownsMap Tryz.prog 9 heldV W.heap.size 0 (.map []) := by rw [<- hW1];exact World.ownsMap_made W _ _ _
 have s1 : W1.heap.size = W.heap.size + 1 := by rw [<- hW1];simp
 have b1 : Below W.heap.size W W1 := by rw [<- hW1];exact (Below.refl _ _).alloc (Nat.le_refl _) _
 rw [hW1]
 clear hW1
 obtain ⟨W2,hW2⟩ : ∃ W2,W1.alloc (.cells #[.map (some W.heap.size),.slice none 0 0,.int .i64 1] 184) = W2 := ⟨_,rfl⟩
 have c0 : W2.cell? ⟨W1.heap.size,0,none⟩ = some (.map (some W.heap.size)) := by rw [<- hW2];exact cell_new _ _ _ 0 _ rfl
 have c1 : W2.cell? ⟨W1.heap.size,1,none⟩ = some (.slice none 0 0) := by rw [<- hW2];exact cell_new _ _ _ 1 _ rfl
 have c2 : W2.cell? ⟨W1.heap.size,2,none⟩ = some (.int .i64 1) := by rw [<- hW2];exact cell_new _ _ _ 2 _ rfl
 have f2 : ∀ i,W2.frozen? ⟨W1.heap.size,i,none⟩ = false := by rw [<- hW2];exact (cellsAt_new W1 _ _ 0 (fun _ => .nilFunc) (fun i hi => absurd hi (by omega))).2
 have s2 : W2.heap.size = W.heap.size + 2 := by rw [<- hW2];simp;omega
 have b2 : Below W1.heap.size W1 W2 := by rw [<- hW2];exact (Below.refl _ _).alloc (Nat.le_refl _) _
 rw [hW2]
 clear hW2
 obtain ⟨W3,hW3⟩ : ∃ W3,W2.alloc (.cells #[.pointer (some ⟨W.heap.size + 1,0,none⟩)] 186) = W3 := ⟨_,rfl⟩
 have d0 : W3.cell? ⟨W.heap.size + 2,0,none⟩ = some (.pointer (some ⟨W.heap.size + 1,0,none⟩)) := by rw [<- hW3,<- s2];exact cell_new _ _ _ 0 _ rfl
 have b3 : Below W2.heap.size W2 W3 := by rw [<- hW3];exact (Below.refl _ _).alloc (Nat.le_refl _) _
 rw [hW3]
 clear hW3
 rw [s1] at c0 c1 c2 f2
 have hg : GAt W2 (gNew (W.heap.size + 1) W.heap.size) := by
  refine ⟨fun n nd hn => ?_,fun n nd m D s hn hk hh => ?_⟩
  ·unfold gNew at hn
   split at hn
   ·rename_i e
    subst e
    cases hn
    refine ⟨by omega,c0,⟨none,0,0,c1,rfl,Nat.le_refl _,by simp [maxLen],RowAt.nil,fun h => absurd h (by omega),.inl rfl⟩,c2,f2,fun m D hm => ?_⟩
    cases hm
    obtain ⟨es,clock,hb',r⟩ := h1
    exact ⟨es,clock,(b2.block _ (by omega)).trans hb',r⟩
   ·cases hn
  ·unfold gNew at hn
   split at hn
   ·cases hn;cases hk;simp [Maps.has] at hh
   ·cases hn
 exact ⟨rfl,hg.below b3,d0,b1.trans ((b2.mono (by omega)).trans (b3.mono (by omega)))⟩
end
end Go.Proofs.YtdpooagnbmpinaaGreatDoor
