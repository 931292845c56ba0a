/- What the trees' and the model's caught do. The contract of a tree's Kind. The contract of tree.New; the empty tree. Contracts of file.fits, file.Read where it refuses, begun, reach, Cut. Contracts of reach and file.Cut at nil. Conditions: none. -/
import Derived.Test.YtibpagmpdgflmaaGreatDoorZT3
import Derived.Test.YtibpagmpdgflmaaGreatDoorZYW
import Derived.Test.YtibpagmpdgflmaaGreatDoorZW1
namespace Go.Proofs.YtibpagmpdgflmaaGreatDoor
open Go.RowKit
attribute [local go_sem] Oper.semAt_some

theorem nil_no (w : World) : (binOp .neq 20 .nilIface .nilIface).run Tryz.prog w = .ok (.bool false) w := by kernel_rfl
theorem err_yes (n : Int) (w : World) : (binOp .neq 20 (.iface 22 (.int .i64 n)) .nilIface).run Tryz.prog w = .ok (.bool true) w := by kernel_rfl
theorem err_as (n : Int) (w : World) : (Instr.typeAssert (.iface 22 (.int .i64 n)) 20 22 false).run Tryz.prog w = .ok (.int .i64 n) w := by kernel_rfl
/-- What a deferred caught does: at an error it stores it, and calls its function. -/
structure Catches (f : FuncId) : Prop where
  idle : ∀ (E : Addr) (cv : Value) (w : World), CallsD Tryz.prog f #[.pointer (some E), cv] .returning w fun e u' w' => e = .returned (.tuple #[]) ∧ u' = .returning ∧ w' = w
  err : ∀ (E : Nat) (fn : FuncId) (caps : Array Value) (c : Int) (older : List PanicEntry) (e0 : Value) (w' : World) (w : World), w.cell? ⟨E, 0, none⟩ = some e0 → w.frozen? ⟨E, 0, none⟩ = false →
    (∀ w, (callFunc fn caps).run Tryz.prog w = .ok (.enter fn caps) w) → (Calls Tryz.prog fn caps (w.setCell ⟨E, 0, none⟩ (.int .i64 c)) fun e w2 => e = .returned (.tuple #[]) ∧ w2 = w') →
    CallsD Tryz.prog f #[.pointer (some ⟨E, 0, none⟩), .func (.func fn) #[] caps] (.panicking (errE c :: older)) w fun e u' w2 =>
      e = .returned (.tuple #[]) ∧ u' = .panicking ({ v := .iface 22 (.int .i64 c), recovered := true } :: older) ∧ w2 = w'
set_option maxRecDepth 100000 in
theorem tree_catches : Catches 159 := by
  refine ⟨fun E cv w => ?_, fun E fn caps c older e0 F w hE hEf hent hclo => ?_⟩
  · refine callsD_of_wpS Tryz.func159 rfl fun c₀ cs hu => ?_
    simp only [Tryz.ntmps159, List.size_toArray, List.length_cons, List.length_nil, Nat.reduceAdd, Nat.reduceSub, Array.replicate_succ, Array.replicate_zero, List.push_toArray, List.append_toArray, List.nil_append, List.cons_append]
    apply wpS_seq
    apply wpS_region
    simp [wpOpsS, go_sem, recoverD, hu, Exit.thenS]
    refine wpS_of_wp ?_
    have h1 := nil_no
    go_wp2
    cases c₀
    simp_all [bodyPostS, results, Tryz.results159]
  · refine callsD_of_wpS Tryz.func159 rfl fun c₀ cs hu => ?_
    simp only [Tryz.ntmps159, List.size_toArray, List.length_cons, List.length_nil, Nat.reduceAdd, Nat.reduceSub, Array.replicate_succ, Array.replicate_zero, List.push_toArray, List.append_toArray, List.nil_append, List.cons_append]
    apply wpS_seq
    apply wpS_region
    simp [wpOpsS, go_sem, recoverD, hu, Exit.thenS, errE]
    refine wpS_of_wp ?_
    have h1 := err_yes
    have h2 := err_as
    have h3 := hent
    have HC := Lib.hid hclo
    clear hclo
    go_wp2_with (refine (HC.out).mono ?_; rintro e w2 ⟨rfl, rfl⟩)
    exact ⟨rfl, _, rfl, .tuple #[], results_none rfl _ _ _, rfl, rfl, rfl⟩
set_option maxRecDepth 100000 in
theorem model_catches : Catches 32 := by
  refine ⟨fun E cv w => ?_, fun E fn caps c older e0 F w hE hEf hent hclo => ?_⟩
  · refine callsD_of_wpS Tryz.func32 rfl fun c₀ cs hu => ?_
    simp only [Tryz.ntmps32, List.size_toArray, List.length_cons, List.length_nil, Nat.reduceAdd, Nat.reduceSub, Array.replicate_succ, Array.replicate_zero, List.push_toArray, List.append_toArray, List.nil_append, List.cons_append]
    apply wpS_seq
    apply wpS_region
    simp [wpOpsS, go_sem, recoverD, hu, Exit.thenS]
    refine wpS_of_wp ?_
    have h1 := nil_no
    go_wp2
    cases c₀
    simp_all [bodyPostS, results, Tryz.results32]
  · refine callsD_of_wpS Tryz.func32 rfl fun c₀ cs hu => ?_
    simp only [Tryz.ntmps32, List.size_toArray, List.length_cons, List.length_nil, Nat.reduceAdd, Nat.reduceSub, Array.replicate_succ, Array.replicate_zero, List.push_toArray, List.append_toArray, List.nil_append, List.cons_append]
    apply wpS_seq
    apply wpS_region
    simp [wpOpsS, go_sem, recoverD, hu, Exit.thenS, errE]
    refine wpS_of_wp ?_
    have h1 := err_yes
    have h2 := err_as
    have h3 := hent
    have HC := Lib.hid hclo
    clear hclo
    go_wp2_with (refine (HC.out).mono ?_; rintro e w2 ⟨rfl, rfl⟩)
    exact ⟨rfl, _, rfl, .tuple #[], results_none rfl _ _ _, rfl, rfl, rfl⟩
end Go.Proofs.YtibpagmpdgflmaaGreatDoor

namespace Go.Proofs.YtibpagmpdgflmaaGreatDoor
open Go.RowKit Go.Maps Go.WideMaps
attribute [local go_sem] Oper.semAt_some

theorem found1_any (K : Nat) (k0 : Value) (w : World) (hc : w.cell? ⟨K, 0, none⟩ = some k0) (hf : w.frozen? ⟨K, 0, none⟩ = false) :
    Calls Tryz.prog 160 #[.pointer (some ⟨K, 0, none⟩)] w fun e w' => e = .returned (.tuple #[]) ∧ w' = w.setCell ⟨K, 0, none⟩ (.int .i64 0) := by
  go_enter Tryz.func160, Tryz.ntmps160
  go_wp2
  go_end0
  exact ⟨rfl, rfl⟩
theorem leaves_congr {P : Program} {fn : Func} {t1 t2 : Array Value} {R : Ending → World → Prop} (h : results fn t1 = results fn t2) : ∀ (ds : List Deferred) (u : FrameMode) (w : World), Leaves P fn t1 R ds u w → Leaves P fn t2 R ds u w
  | [], u, w, hl => by
    cases u with
    | run => exact hl
    | returning => obtain ⟨v, h1, h2⟩ := hl; exact ⟨v, by rw [← h]; exact h1, h2⟩
    | panicking c => exact hl
  | d :: ds, u, w, hl => by
    obtain ⟨h1, fv, cap, f, args, h2, h3, h4⟩ := hl
    refine ⟨h1, fv, cap, f, args, h2, h3, h4.mono fun e u' w' he => ?_⟩
    cases e with
    | returned v => exact leaves_congr h ds _ _ he
    | panicked c => exact leaves_congr h ds _ _ he
    | outgrown => exact he
theorem found_put (d : Nat) (h6 : d ≠ 6) (h7 : d ≠ 7) (v : Value) (tmps : Array Value) : results Tryz.f111 (tmps.setIfInBounds d v) = results Tryz.f111 tmps := by
  have e6 : (tmps.setIfInBounds d v)[6]? = tmps[6]? := by
    simp [Array.getElem?_setIfInBounds, h6]
  have e7 : (tmps.setIfInBounds d v)[7]? = tmps[7]? := by
    simp [Array.getElem?_setIfInBounds, h7]
  unfold results
  rw [Tryz.results111]
  simp [e6, e7]
theorem found_out (d : Nat) (h6 : d ≠ 6) (h7 : d ≠ 7) (v : Value) {R : Ending → World → Prop} (c : List PanicEntry) (a : Act) (w : World) (h : bodyPostD Tryz.prog Tryz.f111 R (.panic c) (a.put (some d) v) w) : bodyPostD Tryz.prog Tryz.f111 R (.panic c) a w :=
  leaves_congr (found_put d h6 h7 v a.tmps) _ _ _ h
/-- What Kind tells of a path. -/
def kindT (g : GrP) (root : Nat) (s : List UInt8) : Nat × Int :=
  if (readP s).1 ≠ 0 then (0, (readP s).1) else
    match walkG g (readP s).2 root with
    | (b, 0) => ((match g b with | some nd => if nd.kids.isSome then 2 else 1 | none => 0), 0)
    | (_, c) => (0, c)
set_option maxRecDepth 100000 in
set_option maxHeartbeats 4000000 in
theorem found_any (g : GrP) (T root : Nat) (s : ByteArray) (W : World) (hs : s.size < 4294967281) (h : GAt W g) (hr : (g root).isSome) (hT : W.cell? ⟨T, 0, none⟩ = some (.pointer (some ⟨root, 0, none⟩))) :
    Calls Tryz.prog 111 #[.pointer (some ⟨T, 0, none⟩), .string s, .func (.func 82) #[] #[]] W fun e W' => e = .returned (.tuple #[.int .i64 (kindT g root (bytesOf s)).1, .int .i64 (kindT g root (bytesOf s)).2]) ∧ Below W.heap.size W W' := by
  have hmf : ∀ (fn : Fn) (first cap : Array Value) (w : World), (Instr.makeFunc fn first cap).run Tryz.prog w = .ok (.func fn first cap) w := fun _ _ _ _ => rfl
  have hmx : Tryz.prog.follows .mixedOrders = true := by kernel_rfl
  have hTl : T < W.heap.size := World.block_lt_of_cell? W ⟨T, 0, none⟩ hT
  obtain ⟨res, hres⟩ : ∃ res, kindT g root (bytesOf s) = res := ⟨_, rfl⟩
  rw [hres]
  have HRES := Lib.hid hres
  obtain ⟨W0, hW0⟩ : ∃ W0, ((W.alloc (.cells #[.int .i64 0] 23)).alloc (.cells #[.int .i64 0] 22)).alloc (.cells #[.string s] 9) = W0 := ⟨_, rfl⟩
  have hb0 : Below W.heap.size W W0 := by rw [← hW0]; exact ((((Below.refl _ _).alloc (Nat.le_refl _) _).alloc (by simp) _).alloc (by simp; omega) _)
  have hs0 : W0.heap.size = W.heap.size + 3 := by rw [← hW0]; simp
  have HCK : Hid (CellsAt W0 W.heap.size 1 (fun _ => .int .i64 0)) := by
    rw [Hid, ← hW0]
    exact (cellsAt_new W #[.int .i64 0] 23 1 _ fun i hi => by rw [show i = 0 from by omega]; rfl).below (m := W.heap.size + 1) (((Below.refl _ _).alloc (by simp) _).alloc (by simp) _) (by omega)
  have HCE : Hid (CellsAt W0 (W.heap.size + 1) 1 (fun _ => .int .i64 0)) := by
    rw [Hid, ← hW0]
    have := cellsAt_new (W.alloc (.cells #[.int .i64 0] 23)) #[.int .i64 0] 22 1 (fun _ => .int .i64 0) fun i hi => by rw [show i = 0 from by omega]; rfl
    rw [show (W.alloc (.cells #[.int .i64 0] 23)).heap.size = W.heap.size + 1 from by simp] at this
    exact this.below (m := W.heap.size + 2) ((Below.refl _ _).alloc (by simp) _) (by omega)
  have hcs : W0.cell? ⟨W.heap.size + 1 + 1, 0, none⟩ = some (.string s) := by
    rw [← hW0]
    have := cell_new ((W.alloc (.cells #[.int .i64 0] 23)).alloc (.cells #[.int .i64 0] 22)) #[.string s] 9 0 _ rfl
    rw [show ((W.alloc (.cells #[.int .i64 0] 23)).alloc (.cells #[.int .i64 0] 22)).heap.size = W.heap.size + 1 + 1 from by simp] at this
    exact this
  have hT0 : W0.cell? ⟨T, 0, none⟩ = some (.pointer (some ⟨root, 0, none⟩)) := (hb0.cell (p := ⟨T, 0, none⟩) hTl).trans hT
  have HRD := Lib.hid (tread_any T root (W.heap.size + 1 + 1) s W0 hs hT0 hcs)
  have HG0 := Lib.hid (h.below hb0)
  have HB0 := Lib.hid hb0
  have HW0 := Lib.hid hW0
  clear hW0 hb0 h hres hT
  unfold ReadT at HRD
  by_cases hz : (readP (bytesOf s)).1 = 0
  · rw [if_pos hz] at HRD
    go_enter_defers Tryz.func111, Tryz.ntmps111
    go_wp2_with (first
      | (go_at_call 161; rw [HW0.out]; refine HRD.out.mono ?_; rintro e w2 ⟨rfl, hb2⟩))
    have hG2 := HG0.out.below hb2
    have hT2 : w2.cell? ⟨T, 0, none⟩ = some (.pointer (some ⟨root, 0, none⟩)) := (hb2.cell (p := ⟨T, 0, none⟩) (by show T < W0.heap.size; omega)).trans hT0
    have hs2 : W.heap.size + 3 ≤ w2.heap.size := by have := hb2.size; omega
    have HS := Lib.hid (tsplit_any s w2.drew hs)
    unfold SplitT at HS
    simp only [hz, if_true] at HS
    have hS0 : w2.drew.cell? ⟨T, 0, none⟩ = some (.pointer (some ⟨root, 0, none⟩)) := hT2
    refine (wpIn_wide (n := 10)).1 ?_
    refine whichever_region (fun w => w.cell? ⟨T, 0, none⟩ = some (.pointer (some ⟨root, 0, none⟩))) [9, 10] hmx ?_
    refine whichever_take 0 (.func (.func 82) #[] #[]) [9, 10] rfl (by kernel_rfl) (fun _ _ _ h => found_out 13 (by decide) (by decide) _ _ _ _ h) hS0 (by rfl) (fun w hw => ?_) ?_
    · constructor <;> go_simp
    refine whichever_take 1 (.pointer (some ⟨T, 0, none⟩)) [9, 10] rfl (by kernel_rfl) (fun _ _ _ h => found_out 14 (by decide) (by decide) _ _ _ _ h) hS0 (by rfl) (fun w hw => ?_) ?_
    · constructor <;> go_simp
    refine whichever_take 2 (.pointer (some ⟨T, 0, none⟩)) [9, 10] rfl (by kernel_rfl) (fun _ _ _ h => found_out 15 (by decide) (by decide) _ _ _ _ h) hS0 (by rfl) (fun w hw => ?_) ?_
    · constructor <;> go_simp
    refine whichever_take 3 (.pointer (some ⟨T, 0, none⟩)) [9, 10] rfl (by kernel_rfl) (fun _ _ _ h => found_out 16 (by decide) (by decide) _ _ _ _ h) hS0 (by rfl) (fun w hw => ?_) ?_
    · constructor <;> go_simp
    refine whichever_take 4 (.pointer (some ⟨root, 0, none⟩)) [9, 10] rfl (by kernel_rfl) (fun _ _ _ h => found_out 17 (by decide) (by decide) _ _ _ _ h) hS0 (by rfl) (fun w hw => ?_) ?_
    · constructor <;> go_simp
    refine whichever_take 5 (.string s) [9, 10] rfl (by kernel_rfl) (fun _ _ _ h => found_out 18 (by decide) (by decide) _ _ _ _ h) hS0 (by rfl) (fun w hw => ?_) ?_
    · constructor <;> go_simp
    refine whichever_next 6 rfl (by kernel_rfl) (by rfl) ?_
    go_simp
    refine ⟨trivial, callsIn_wide.2 (HS.out.mono ?_)⟩
    rintro e w3 ⟨⟨A, c, rfl, hc1, hc2, hrow⟩, hb3⟩
    have hT3 : w3.cell? ⟨T, 0, none⟩ = some (.pointer (some ⟨root, 0, none⟩)) := (hb3.cell (p := ⟨T, 0, none⟩) (by show T < w2.heap.size; omega)).trans hT2
    refine ⟨hT3, ?_⟩
    have hG3 : GAt w3 g := hG2.below ((Below.refl w2.heap.size w2).drew.trans hb3)
    have hfine : (readP (bytesOf s)).2.length ≤ 16 ∧ ∀ x ∈ (readP (bytesOf s)).2, x.length ≤ 40 := by
      rcases readP_cases (bytesOf s) with h | h
      · exact h.2.1
      · rw [h.2]; exact ⟨by simp, by simp⟩
    have hlen1 : (readP (bytesOf s)).2.length ≤ 100000 := by have := hfine.1; omega
    have hlen2 : ∀ x ∈ (readP (bytesOf s)).2, x.length ≤ 100000 := fun x hx => by have := hfine.2 x hx; omega
    have HW := Lib.hid (twalked_any g (readP (bytesOf s)).2 A (readP (bytesOf s)).2.length c root w3 hG3 hr rfl hlen1 hlen2 hrow)
    have hbe : Below W0.heap.size W0 w3 := hb2.trans (((Below.refl w2.heap.size w2).drew.trans hb3).mono hb2.size)
    refine whichever_next 7 rfl (by kernel_rfl) (by rfl) ?_
    go_simp
    refine ⟨trivial, callsIn_wide.2 (HW.out.mono ?_)⟩
    rintro e w4 ⟨he, hsome, rfl⟩
    rcases hwg : walkG g (readP (bytesOf s)).2 root with ⟨b, cc⟩
    rw [hwg] at he hsome
    simp only at he hsome
    by_cases hcc : cc = 0
    · subst hcc
      rw [if_pos rfl] at he
      subst he
      obtain ⟨nd, hnd⟩ := Option.isSome_iff_exists.1 (hsome rfl)
      have HND := Lib.hid (tkind_any b nd w4 (hG3.node b nd hnd))
      have HR2 : Hid (res = ((if nd.kids.isSome then 2 else 1), 0)) := by
        rw [Hid, ← HRES.out]; unfold kindT; rw [if_neg (by rw [hz]; exact fun h => h rfl), hwg]; simp only; rw [hnd]
      simp only
      refine ⟨hT3, ?_⟩
      refine whichever_next 8 rfl (by kernel_rfl) (by rfl) ?_
      go_simp
      obtain ⟨kn, hkn⟩ : ∃ kn : Nat, (if nd.kids.isSome then 2 else 1) = kn := ⟨_, rfl⟩
      have HND2 : Hid (Calls Tryz.prog 82 #[.pointer (some ⟨b, 0, none⟩)] w4 fun e W' => e = .returned (.int .i64 kn) ∧ W' = w4) := by
        rw [Hid, ← hkn]
        refine HND.out.mono ?_
        rintro e w5 ⟨rfl, rfl⟩
        refine ⟨?_, rfl⟩
        cases nd.kids.isSome <;> rfl
      rw [hkn] at HR2
      refine ⟨trivial, callsIn_wide.2 (HND2.out.mono ?_)⟩
      rintro e w5 ⟨rfl, rfl⟩
      refine ⟨hT3, ?_⟩
      have hE := HCE.out.below hbe (by omega)
      have hK := HCK.out.below hbe (by omega)
      have k0 := hK.1 0 (by omega)
      have k1 := hK.2 0
      have e0 := hE.1 0 (by omega)
      have e1 := hE.2 0
      refine whichever_next 9 rfl (by kernel_rfl) (by rfl) ?_
      go_simp
      refine whichever_next 10 rfl (by kernel_rfl) (by rfl) ?_
      go_simp
      refine whichever_end (by kernel_rfl) ?_
      rename_i K hK2
      refine hK2 _ _ ?_
      go_wp2_with fail
      refine leaves_cons (f := 159) (args := #[.pointer (some ⟨W.heap.size + 1, 0, none⟩), .func (.func 160) #[] #[.pointer (some ⟨W.heap.size, 0, none⟩)]]) (by simp) (by simp [go_sem]) ?_
      refine (tree_catches.idle _ _ _).mono ?_
      rintro e u' w6 ⟨rfl, rfl, rfl⟩
      have k3 : ((w5.setCell ⟨W.heap.size, 0, none⟩ (.int .i64 kn)).setCell ⟨W.heap.size + 1, 0, none⟩ (.int .i64 0)).cell? ⟨W.heap.size, 0, none⟩ = some (.int .i64 kn) :=
        (World.cell?_setCell_other _ _ _ _ (by intro e; injection e with e; omega)).trans (World.cell?_setCell_same' _ _ _ (by rw [k0]; rfl))
      have e3 : ((w5.setCell ⟨W.heap.size, 0, none⟩ (.int .i64 kn)).setCell ⟨W.heap.size + 1, 0, none⟩ (.int .i64 0)).cell? ⟨W.heap.size + 1, 0, none⟩ = some (.int .i64 0) :=
        World.cell?_setCell_same' _ _ _ (by rw [World.cell?_setCell_other _ _ _ _ (by intro e; injection e with e; omega), e0]; rfl)
      have b3 : Below W.heap.size W ((w5.setCell ⟨W.heap.size, 0, none⟩ (.int .i64 kn)).setCell ⟨W.heap.size + 1, 0, none⟩ (.int .i64 0)) :=
        ((HB0.out.trans (hbe.mono (by omega))).setCell (Nat.le_refl _) _).setCell (by show W.heap.size ≤ W.heap.size + 1; omega) _
      generalize (w5.setCell ⟨W.heap.size, 0, none⟩ (.int .i64 kn)).setCell ⟨W.heap.size + 1, 0, none⟩ (.int .i64 0) = w6 at *
      simp [Leaves, settle, results, Tryz.results111, go_sem, e3, k3]
      exact ⟨by rw [HR2.out]; exact ⟨rfl, rfl⟩, b3⟩
    · rw [if_neg hcc] at he
      subst he
      have HR2 : Hid (res = (0, (cc : Int))) := by
        rw [Hid, ← HRES.out]; unfold kindT; rw [if_neg (by rw [hz]; exact fun h => h rfl), hwg]
        cases cc with
        | zero => exact absurd rfl hcc
        | succ n => rfl
      simp only
      have hE := HCE.out.below hbe (by omega)
      have hK := HCK.out.below hbe (by omega)
      have hKl : W.heap.size < (w4).heap.size := by have := (hbe).size; omega
      refine leaves_cons (f := 159) (args := #[.pointer (some ⟨W.heap.size + 1, 0, none⟩), .func (.func 160) #[] #[.pointer (some ⟨W.heap.size, 0, none⟩)]]) (by simp) (by simp [go_sem]) ?_
      refine (tree_catches.err (W.heap.size + 1) 160 #[.pointer (some ⟨W.heap.size, 0, none⟩)] (cc : Int) [] _ _ w4 (hE.1 0 (by omega)) (hE.2 0) (enters_of Tryz.func160 (by kernel_rfl) rfl _) (found1_any W.heap.size _ _ ((hK.set (B := W.heap.size + 1) (i := 0) (v := .int .i64 (cc : Int)) (by omega)).1 0 (by omega)) ((hK.set (B := W.heap.size + 1) (i := 0) (v := .int .i64 (cc : Int)) (by omega)).2 0))).mono ?_
      rintro e u' w5 ⟨rfl, rfl, rfl⟩
      have e3 : (((w4).setCell ⟨W.heap.size + 1, 0, none⟩ (.int .i64 (cc : Int))).setCell ⟨W.heap.size, 0, none⟩ (.int .i64 0)).cell? ⟨W.heap.size + 1, 0, none⟩ = some (.int .i64 (cc : Int)) :=
        (World.cell?_setCell_other _ _ _ _ (by intro e; injection e with e; omega)).trans (World.cell?_setCell_same' _ _ _ (by rw [hE.1 0 (by omega)]; rfl))
      have k3 : (((w4).setCell ⟨W.heap.size + 1, 0, none⟩ (.int .i64 (cc : Int))).setCell ⟨W.heap.size, 0, none⟩ (.int .i64 0)).cell? ⟨W.heap.size, 0, none⟩ = some (.int .i64 0) :=
        World.cell?_setCell_same' _ _ _ (by rw [(hK.set (B := W.heap.size + 1) (i := 0) (v := .int .i64 (cc : Int)) (by omega)).1 0 (by omega)]; rfl)
      have b3 : Below W.heap.size W (((w4).setCell ⟨W.heap.size + 1, 0, none⟩ (.int .i64 (cc : Int))).setCell ⟨W.heap.size, 0, none⟩ (.int .i64 0)) :=
        ((HB0.out.trans ((hbe).mono (by omega))).setCell (by show W.heap.size ≤ W.heap.size + 1; omega) _).setCell (Nat.le_refl _) _
      generalize ((w4).setCell ⟨W.heap.size + 1, 0, none⟩ (.int .i64 (cc : Int))).setCell ⟨W.heap.size, 0, none⟩ (.int .i64 0) = w6 at *
      simp [Leaves, settle, results, Tryz.results111, go_sem, e3, k3]
      exact ⟨by rw [HR2.out]; exact ⟨rfl, rfl⟩, b3⟩
  · rw [if_neg hz] at HRD
    go_enter_defers Tryz.func111, Tryz.ntmps111
    go_wp2_with (first
      | (go_at_call 161; rw [HW0.out]; refine HRD.out.mono ?_; rintro e w2 ⟨rfl, hb2⟩))
    have HR2 : Hid (res = (0, (readP (bytesOf s)).1)) := by
      rw [Hid, ← HRES.out]; unfold kindT; rw [if_pos hz]
    have hE := HCE.out.below hb2 (by omega)
    have hK := HCK.out.below hb2 (by omega)
    have hKl : W.heap.size < (w2).heap.size := by have := (hb2).size; omega
    refine leaves_cons (f := 159) (args := #[.pointer (some ⟨W.heap.size + 1, 0, none⟩), .func (.func 160) #[] #[.pointer (some ⟨W.heap.size, 0, none⟩)]]) (by simp) (by simp [go_sem]) ?_
    refine (tree_catches.err (W.heap.size + 1) 160 #[.pointer (some ⟨W.heap.size, 0, none⟩)] (readP (bytesOf s)).1 [] _ _ w2 (hE.1 0 (by omega)) (hE.2 0) (enters_of Tryz.func160 (by kernel_rfl) rfl _) (found1_any W.heap.size _ _ ((hK.set (B := W.heap.size + 1) (i := 0) (v := .int .i64 (readP (bytesOf s)).1) (by omega)).1 0 (by omega)) ((hK.set (B := W.heap.size + 1) (i := 0) (v := .int .i64 (readP (bytesOf s)).1) (by omega)).2 0))).mono ?_
    rintro e u' w5 ⟨rfl, rfl, rfl⟩
    have e3 : (((w2).setCell ⟨W.heap.size + 1, 0, none⟩ (.int .i64 (readP (bytesOf s)).1)).setCell ⟨W.heap.size, 0, none⟩ (.int .i64 0)).cell? ⟨W.heap.size + 1, 0, none⟩ = some (.int .i64 (readP (bytesOf s)).1) :=
      (World.cell?_setCell_other _ _ _ _ (by intro e; injection e with e; omega)).trans (World.cell?_setCell_same' _ _ _ (by rw [hE.1 0 (by omega)]; rfl))
    have k3 : (((w2).setCell ⟨W.heap.size + 1, 0, none⟩ (.int .i64 (readP (bytesOf s)).1)).setCell ⟨W.heap.size, 0, none⟩ (.int .i64 0)).cell? ⟨W.heap.size, 0, none⟩ = some (.int .i64 0) :=
      World.cell?_setCell_same' _ _ _ (by rw [(hK.set (B := W.heap.size + 1) (i := 0) (v := .int .i64 (readP (bytesOf s)).1) (by omega)).1 0 (by omega)]; rfl)
    have b3 : Below W.heap.size W (((w2).setCell ⟨W.heap.size + 1, 0, none⟩ (.int .i64 (readP (bytesOf s)).1)).setCell ⟨W.heap.size, 0, none⟩ (.int .i64 0)) :=
      ((HB0.out.trans ((hb2).mono (by omega))).setCell (by show W.heap.size ≤ W.heap.size + 1; omega) _).setCell (Nat.le_refl _) _
    generalize ((w2).setCell ⟨W.heap.size + 1, 0, none⟩ (.int .i64 (readP (bytesOf s)).1)).setCell ⟨W.heap.size, 0, none⟩ (.int .i64 0) = w6 at *
    simp [Leaves, settle, results, Tryz.results111, go_sem, e3, k3]
    exact ⟨by rw [HR2.out]; exact ⟨rfl, rfl⟩, b3⟩
theorem kind_any (g : GrP) (T root : Nat) (s : ByteArray) (W : World) (hs : s.size < 4294967281) (h : GAt W g) (hr : (g root).isSome) (hT : W.cell? ⟨T, 0, none⟩ = some (.pointer (some ⟨root, 0, none⟩))) :
    Calls Tryz.prog 54 #[.pointer (some ⟨T, 0, none⟩), .string s] W fun e W' => e = .returned (.tuple #[.int .i64 (kindT g root (bytesOf s)).1, .int .i64 (kindT g root (bytesOf s)).2]) ∧ Below W.heap.size W W' := by
  have HF := Lib.hid (found_any g T root s W hs h hr hT)
  clear h hr hT
  generalize kindT g root (bytesOf s) = r at *
  go_enter Tryz.func54, Tryz.ntmps54
  go_wp2_with (go_at_call 111; refine HF.out.mono ?_; rintro e w2 ⟨rfl, hb⟩)
  go_ret2
  exact ⟨rfl, hb⟩
end Go.Proofs.YtibpagmpdgflmaaGreatDoor

namespace Go.Proofs.YtibpagmpdgflmaaGreatDoor
open Go.RowKit Go.Maps Go.WideMaps
attribute [local go_sem] Oper.semAt_some

/-- The empty tree: its root lies at r, its names at m. -/
def gNew (r m : Nat) : GrP := fun n => if n = r then some ⟨some (m, .map []), [], 1⟩ else none
theorem gNew_root (r m : Nat) : gNew r m r = some ⟨some (m, .map []), [], 1⟩ := by unfold gNew; rw [if_pos rfl]
theorem kindT_new (r m : Nat) (s : List UInt8) : kindT (gNew r m) r s = if (readP s).1 ≠ 0 then (0, (readP s).1) else if (readP s).2 = [] then (2, 0) else (0, 202) := by
  unfold kindT
  split
  · rfl
  · rename_i hz
    cases hn : (readP s).2 with
    | nil => rw [if_pos rfl, walkG]; simp only; rw [gNew_root]; rfl
    | cons x l =>
      rw [if_neg (by simp), walkG, gNew_root]; rfl
theorem tnew_any (W : World) :
    Calls Tryz.prog 37 #[] W fun e W' => e = .returned (.pointer (some ⟨W.heap.size + 2, 0, none⟩)) ∧ GAt W' (gNew (W.heap.size + 1) W.heap.size) ∧ W'.cell? ⟨W.heap.size + 2, 0, none⟩ = some (.pointer (some ⟨W.heap.size + 1, 0, none⟩)) ∧ Below W.heap.size W W' := by
  have hmm := @run_makeMap Tryz.prog
  go_enter Tryz.func37, Tryz.ntmps37
  go_wp2
  go_ret
  obtain ⟨W1, hW1⟩ : ∃ W1, W.alloc (.map #[] 0) = W1 := ⟨_, rfl⟩
  have h1 : W1.ownsMap Tryz.prog 9 heldV W.heap.size 0 (.map []) := by rw [← hW1]; exact World.ownsMap_made W _ _ _
  have s1 : W1.heap.size = W.heap.size + 1 := by rw [← hW1]; simp
  have b1 : Below W.heap.size W W1 := by rw [← hW1]; exact (Below.refl _ _).alloc (Nat.le_refl _) _
  rw [hW1]
  clear hW1
  obtain ⟨W2, hW2⟩ : ∃ W2, W1.alloc (.cells #[.map (some W.heap.size), .slice none 0 0, .int .i64 1] 112) = W2 := ⟨_, rfl⟩
  have c0 : W2.cell? ⟨W1.heap.size, 0, none⟩ = some (.map (some W.heap.size)) := by rw [← hW2]; exact cell_new _ _ _ 0 _ rfl
  have c1 : W2.cell? ⟨W1.heap.size, 1, none⟩ = some (.slice none 0 0) := by rw [← hW2]; exact cell_new _ _ _ 1 _ rfl
  have c2 : W2.cell? ⟨W1.heap.size, 2, none⟩ = some (.int .i64 1) := by rw [← hW2]; exact cell_new _ _ _ 2 _ rfl
  have f2 : ∀ i, W2.frozen? ⟨W1.heap.size, i, none⟩ = false := by rw [← hW2]; exact (cellsAt_new W1 _ _ 0 (fun _ => .nilFunc) (fun i hi => absurd hi (by omega))).2
  have s2 : W2.heap.size = W.heap.size + 2 := by rw [← hW2]; simp; omega
  have b2 : Below W1.heap.size W1 W2 := by rw [← hW2]; exact (Below.refl _ _).alloc (Nat.le_refl _) _
  rw [hW2]
  clear hW2
  obtain ⟨W3, hW3⟩ : ∃ W3, W2.alloc (.cells #[.pointer (some ⟨W.heap.size + 1, 0, none⟩)] 114) = W3 := ⟨_, rfl⟩
  have d0 : W3.cell? ⟨W.heap.size + 2, 0, none⟩ = some (.pointer (some ⟨W.heap.size + 1, 0, none⟩)) := by rw [← hW3, ← s2]; exact cell_new _ _ _ 0 _ rfl
  have b3 : Below W2.heap.size W2 W3 := by rw [← hW3]; exact (Below.refl _ _).alloc (Nat.le_refl _) _
  rw [hW3]
  clear hW3
  rw [s1] at c0 c1 c2 f2
  have hg : GAt W2 (gNew (W.heap.size + 1) W.heap.size) := by
    refine ⟨fun n nd hn => ?_, fun n nd m D s hn hk hh => ?_⟩
    · unfold gNew at hn
      split at hn
      · rename_i e
        subst e
        cases hn
        refine ⟨by omega, c0, ⟨none, 0, 0, c1, rfl, Nat.le_refl _, by simp [maxLen], RowAt.nil, fun h => absurd h (by omega), .inl rfl⟩, c2, f2, fun m D hm => ?_⟩
        cases hm
        obtain ⟨es, clock, hb', r⟩ := h1
        exact ⟨es, clock, (b2.block _ (by omega)).trans hb', r⟩
      · cases hn
    · unfold gNew at hn
      split at hn
      · cases hn; cases hk; simp [Maps.has] at hh
      · cases hn
  exact ⟨rfl, hg.below b3, d0, b1.trans ((b2.mono (by omega)).trans (b3.mono (by omega)))⟩
end Go.Proofs.YtibpagmpdgflmaaGreatDoor

namespace Go.Proofs.YtibpagmpdgflmaaGreatDoor
open Go.RowKit
attribute [local go_sem] Oper.semAt_some

theorem run_append_make {P : Program} (w : World) (t u ty e : TypeId) (i : TypeInfo) (z : Value) (ht : P.underlying t = some (.slice e)) (hu : P.underlying u = some (.int .i64)) (hi : P.info? e = some i) (hz : i.zero = some z)
    (n : Nat) (h0 : 0 < n) (hn : n ≤ 448) (hb : i.bytes = 1) (hs : i.size = 1) :
    (Builtin.append_ #[t, u] ty #[.slice none 0 0, .int .i64 n]).run P w =
      .ok (.slice (some ⟨w.heap.size, 0, none⟩) n (grownCap w n 0 e)) (w.drew.alloc (.cells (Builtin.zeroCells z.cells n ++ Builtin.zeroCells z.cells (grownCap w n 0 e - n)) e)) := by
  have hn0 : n ≠ 0 := by omega
  have h1 : ¬ ((n : Int) < 0) := by omega
  have h2 : ¬ (281474976710656 < (n : Int)) := by omega
  have h3 : ¬ (9223372036854775807 < (n : Int)) := by omega
  have h4 : ¬ (281474976710656 < Builtin.nextslicecap n 0) := by rw [nextslicecap_zero h0]; omega
  have hw : IntKind.i64.wrap (n : Int) = n := IntWalk.i64_in _ (by omega)
  simp [Builtin.append_, run_underlying ht, run_underlying hu, sizeOf, typeInfo, zeroValue, hi, hz, hb, hs, asInt, asIntOf, hw, h1, h2, h3, h4, hn0, Question.forced, run_firstCells_none, newRow, grownCap]
theorem fitsL_any (xs : List Int) (n b : Nat) (W : World) (hl : xs.length = n) (hn : n ≤ 100) (hc : ∀ j x, xs[j]? = some x → W.cell? ⟨b, j, none⟩ = some (.int .i64 x)) :
    Calls Tryz.prog 156 #[.slice (some ⟨b, 0, none⟩) n n] W fun e W' => e = .returned (.bool (!xs.any (fun x => decide (448 < x)))) ∧ Below W.heap.size W W' := by
  have hC := AnyE.slices_ContainsFunc Tryz.containsInt (enc := fun n : Int => .int .i64 n) (fun x => decide (448 < x)) 180 #[] (enters_of Tryz.func180 (by kernel_rfl) rfl)
    b 0 n n xs W
    (fun W1 x _ => by
      refine (fits1_any x W1).mono ?_
      rintro e w' ⟨rfl, rfl⟩
      exact ⟨rfl, 0, rfl⟩)
    (by omega) (by omega)
    (fun j hj => by
      rw [Nat.zero_add]
      have e : xs[j]? = some xs[j]! := by rw [List.getElem?_eq_getElem hj]; simp [hj]
      exact hc j _ e)
  rw [List.take_of_length_le (by omega)] at hC
  have HC := Lib.hid hC
  clear hC
  generalize xs.any (fun x => decide (448 < x)) = q at *
  go_enter Tryz.func156, Tryz.ntmps156
  go_wp2_with (go_at_call 157; refine HC.out.mono ?_; rintro e w' ⟨rfl, k, rfl⟩)
  go_ret
  exact ⟨rfl, below_drewN (Below.refl _ _) k⟩
theorem fileRead_neg (A : Option Addr) (n c : Nat) (a m : Int) (h : a < 0 ∨ m < 0) (W : World) :
    Calls Tryz.prog 133 #[.slice A n c, .int .i64 a, .int .i64 m] W fun e W' => e = .returned (.tuple #[.slice none 0 0, .int .i64 2]) ∧ W' = W := by
  by_cases ha : a < 0
  · have h1 : decide (a < 0) = true := decide_eq_true ha
    go_enter Tryz.func133, Tryz.ntmps133
    go_wp2
    go_ret2
    exact ⟨rfl, rfl⟩
  · have hm : m < 0 := by omega
    have h1 : decide (a < 0) = false := decide_eq_false ha
    have h2 : decide (m < 0) = true := decide_eq_true hm
    go_enter Tryz.func133, Tryz.ntmps133
    go_wp2
    go_ret2
    exact ⟨rfl, rfl⟩
theorem begun_nil (W : World) : Calls Tryz.prog 154 #[.slice none 0 0] W fun e W' => e = .returned (.pointer (some ⟨W.heap.size, 0, none⟩)) ∧ CellsAt W' W.heap.size 1 (fun _ => .slice none 0 0) ∧ W'.heap.size = W.heap.size + 1 ∧ Below W.heap.size W W' := by
  have HCL := Lib.hid (fun W => AnyE.slices_Clone_nil Tryz.cloneByte 0 0 W)
  go_enter Tryz.func154, Tryz.ntmps154
  go_wp2_with (go_at_call 83; refine (HCL.out _).mono ?_; rintro e w3 ⟨rfl, rfl⟩)
  go_ret
  exact ⟨rfl, cellsAt_new _ _ _ _ _ fun i hi => by rw [show i = 0 from by omega]; rfl, by simp, (Below.refl _ _).alloc (Nat.le_refl _) _⟩
end Go.Proofs.YtibpagmpdgflmaaGreatDoor

namespace Go.Proofs.YtibpagmpdgflmaaGreatDoor
open Go.RowKit
attribute [local go_sem] Oper.semAt_some

theorem Tryz.underInt : Tryz.prog.underlying 3 = some (.int .i64) := by kernel_rfl
/-- An append whose outcome is known. -/
theorem wpList_append_known {P : Program} {ops : Array Oper} {rest : List Oper} {o : Oper} {a : Act} {w : World} {Q : Exit → Act → World → Prop} (hgd : o.guard = none) (s x : Operand) (t u : TypeId)
    (ho : o.op = .call { callee := .builtin .append, args := #[s, x], argTypes := #[t, u] }) (vs vx v : Value) (w' : World) (hs : a.eval s = vs) (hx : a.eval x = vx) (hr : ∀ ty, (Builtin.append_ #[t, u] ty #[vs, vx]).run P w = .ok v w')
    (h : wpList P ops Q rest (a.put o.dst v) w') : wpList P ops Q (o :: rest) a w := by
  refine wpList_plain hgd fun _ hK => ?_
  unfold Oper.wp execOp
  simp only [ho, resolve, invoke, builtin, Sem.run_bind, Sem.run_pure, Result.andThen_ok, List.map_toArray, List.map_cons, List.map_nil, hs, hx, hr]
  exact hK _ _ h
theorem zeroCells_get (n i : Nat) (z : Value) (h : i < n) : (Builtin.zeroCells #[z] n)[i]? = some z := by
  unfold Builtin.zeroCells
  rw [Array.getElem?_map, Array.getElem?_range, if_pos (by simpa using h)]
  simp [Nat.mod_one]
/-- Data of so many bytes behind a pointer. -/
def DataAt (W : World) (X n : Nat) (base : Nat) : Prop :=
  ∃ A c, W.cell? ⟨X, 0, none⟩ = some (.slice A n c) ∧ n ≤ c ∧ c ≤ maxLen ∧ ((A = none ∧ n = 0 ∧ c = 0) ∨ ∃ g, A = some ⟨g, 0, none⟩ ∧ base ≤ g ∧ g ≠ X ∧ CellsAt W g n (fun _ => .int .u8 0))
set_option maxRecDepth 100000 in
set_option maxHeartbeats 4000000 in
theorem reach_any (X n : Nat) (W : World) (hn : n ≤ 448) (hc : CellsAt W X 1 (fun _ => .slice none 0 0)) :
    Calls Tryz.prog 155 #[.pointer (some ⟨X, 0, none⟩), .int .i64 n] W fun e W' => e = .returned (.tuple #[]) ∧ DataAt W' X n W.heap.size ∧ (∀ B, B ≤ X → Below B W W') ∧ W.heap.size ≤ W'.heap.size := by
  obtain ⟨i0, hi, hz0, hz1, hz2⟩ := info_parts Tryz.infoU8
  have hXl : X < W.heap.size := World.block_lt_of_cell? W ⟨X, 0, none⟩ (hc.1 0 (by omega))
  have c0 := hc.1 0 (by omega)
  have f0 := hc.2 0
  by_cases h0 : n = 0
  · subst h0
    go_enter Tryz.func155, Tryz.ntmps155
    go_wp2
    go_end0
    exact ⟨rfl, ⟨none, 0, c0, Nat.le_refl _, by simp [maxLen], .inl ⟨rfl, rfl, rfl⟩⟩, fun B _ => Below.refl _ _, Nat.le_refl _⟩
  · have hap := fun W ty => run_append_make (P := Tryz.prog) W 25 3 ty 5 i0 (.int .u8 0) Tryz.underlyingBytes Tryz.underInt hi hz0 n (by omega) hn hz2 hz1
    go_enter Tryz.func155, Tryz.ntmps155
    have hne : ¬ ((n : Int) ≤ 0) := by omega
    go_wp2_with (at_builtin; refine wpList_append_known rfl _ _ _ _ rfl _ _ _ _ rfl rfl (fun ty => hap W ty) ?_)
    go_end0
    obtain ⟨cap, hcap⟩ : ∃ cap, grownCap W n 0 5 = cap := ⟨_, rfl⟩
    have hcl : n ≤ cap ∧ cap ≤ maxLen := by
      rw [← hcap]
      exact ⟨grownCap_ge _ _ _ _, grownCap_le_maxLen _ _ _ _ (by unfold maxLen; omega)⟩
    rw [hcap]
    obtain ⟨W1, hW1⟩ : ∃ W1, W.setCell ⟨X, 0, none⟩ (.slice (some ⟨W.heap.size, 0, none⟩) n cap) = W1 := ⟨_, rfl⟩
    have s1 : W1.heap.size = W.heap.size := by rw [← hW1]; simp [World.setCell]
    have d0 : W1.cell? ⟨X, 0, none⟩ = some (.slice (some ⟨W.heap.size, 0, none⟩) n cap) := by rw [← hW1]; exact World.cell?_setCell_same' _ _ _ (by rw [c0]; rfl)
    have b1 : ∀ B, B ≤ X → Below B W W1 := fun B hB => by rw [← hW1]; exact (Below.refl B W).setCell (by show B ≤ X; exact hB) _
    rw [hW1]
    have hzc : CellsAt (W1.alloc (.cells (Builtin.zeroCells #[.int .u8 0] n ++ Builtin.zeroCells #[.int .u8 0] (cap - n)) 5)) W1.heap.size n (fun _ => .int .u8 0) :=
      cellsAt_new _ _ _ _ _ fun i hi => by rw [Array.getElem?_append_left (by rw [size_zeroCells]; simpa using hi)]; exact zeroCells_get n i _ hi
    rw [s1] at hzc
    have hb2 : Below W1.heap.size W1 (W1.alloc (.cells (Builtin.zeroCells #[.int .u8 0] n ++ Builtin.zeroCells #[.int .u8 0] (cap - n)) 5)).drew := ((Below.refl _ _).alloc (Nat.le_refl _) _).drew
    refine ⟨rfl, ⟨_, _, (hb2.cell (p := ⟨X, 0, none⟩) (by show X < _; omega)).trans d0, hcl.1, hcl.2, .inr ⟨_, rfl, Nat.le_refl _, by omega, hzc⟩⟩, fun B hB => (b1 B hB).trans (hb2.mono (by omega)), by have := hb2.size; omega⟩
/-- Cut's error at nil. -/
def cutN (n : Int) : Int := if n < 0 then 2 else if 448 < n then 190 else 0
set_option maxRecDepth 100000 in
set_option maxHeartbeats 4000000 in
theorem cut_nil (n : Int) (W : World) :
    Calls Tryz.prog 109 #[.slice none 0 0, .int .i64 n] W fun e W' => (∃ v, e = .returned (.tuple #[v, .int .i64 (cutN n)])) ∧ Below W.heap.size W W' := by
  have HBG := Lib.hid (begun_nil W)
  by_cases h1 : n < 0
  · have e1 : cutN n = 2 := by unfold cutN; rw [if_pos h1]
    rw [e1]
    go_enter Tryz.func109, Tryz.ntmps109
    have hd : decide (n < 0) = true := decide_eq_true h1
    go_wp2_with fail
    refine wp_scope_fwd 1 ?_
    go_wp2_with (first | go_step3 | (go_at_call 154; refine HBG.out.mono ?_; rintro e w2 ⟨rfl, hc, hs, hb⟩; have hcx := hc.1 0 (by omega)))
    refine fwd_goto _ rfl ?_
    go_wp2_with go_step3
    rw [fwd_ret]
    refine bodyPost_ret (v := .tuple #[.slice none 0 0, .int .i64 2]) (by simp [results, Tryz.results109, go_sem]) rfl ?_
    exact ⟨⟨_, rfl⟩, hb⟩
  · have hd : decide (n < 0) = false := decide_eq_false h1
    by_cases h2 : 448 < n
    · have e1 : cutN n = 190 := by unfold cutN; rw [if_neg h1, if_pos h2]
      rw [e1]
      have hq : (![0, n].any fun x => decide (448 < x)) = false := by simp; exact h2
      have HF : Hid (∀ w : World, w.heap.size = W.heap.size + 1 → Calls Tryz.prog 156 #[.slice (some ⟨W.heap.size + 1, 0, none⟩) 2 2] (w.alloc (.cells #[.int .i64 0, .int .i64 n] 3)) fun e w3 => e = .returned (.bool false) ∧ Below (W.heap.size + 2) (w.alloc (.cells #[.int .i64 0, .int .i64 n] 3)) w3) := fun w hw => by
        have := fitsL_any [0, n] 2 (W.heap.size + 1) (w.alloc (.cells #[.int .i64 0, .int .i64 n] 3)) rfl (by omega) (fun j x hj => by
          rw [← hw]
          match j, hj with
          | 0, hj => cases hj; exact cell_new _ _ _ 0 _ rfl
          | 1, hj => cases hj; exact cell_new _ _ _ 1 _ rfl)
        rw [hq, show (w.alloc (.cells #[.int .i64 0, .int .i64 n] 3)).heap.size = W.heap.size + 2 from by simp; omega] at this
        exact this
      go_enter Tryz.func109, Tryz.ntmps109
      go_wp2_with fail
      refine wp_scope_fwd 1 ?_
      go_wp2_with (first
        | go_step3
        | (go_at_call 154; refine HBG.out.mono ?_; rintro e w2 ⟨rfl, hc, hs, hb⟩; have hcx := hc.1 0 (by omega))
        | (go_at_call 156; refine (HF.out _ hs).mono ?_; rintro e w3 ⟨rfl, hb3⟩))
      refine fwd_goto _ rfl ?_
      go_wp2_with go_step3
      rw [fwd_ret]
      refine bodyPost_ret (v := .tuple #[.slice none 0 0, .int .i64 190]) (by simp [results, Tryz.results109, go_sem]) rfl ?_
      exact ⟨⟨_, rfl⟩, hb.trans (((Below.refl w2.heap.size w2).alloc (Nat.le_refl _) _).trans (hb3.mono (by omega)) |>.mono (by omega))⟩
    · have e1 : cutN n = 0 := by unfold cutN; rw [if_neg h1, if_neg h2]
      rw [e1]
      have hq : (![0, n].any fun x => decide (448 < x)) = true := by simp; omega
      have HF : Hid (∀ w : World, w.heap.size = W.heap.size + 1 → Calls Tryz.prog 156 #[.slice (some ⟨W.heap.size + 1, 0, none⟩) 2 2] (w.alloc (.cells #[.int .i64 0, .int .i64 n] 3)) fun e w3 => e = .returned (.bool true) ∧ Below (W.heap.size + 2) (w.alloc (.cells #[.int .i64 0, .int .i64 n] 3)) w3) := fun w hw => by
        have := fitsL_any [0, n] 2 (W.heap.size + 1) (w.alloc (.cells #[.int .i64 0, .int .i64 n] 3)) rfl (by omega) (fun j x hj => by
          rw [← hw]
          match j, hj with
          | 0, hj => cases hj; exact cell_new _ _ _ 0 _ rfl
          | 1, hj => cases hj; exact cell_new _ _ _ 1 _ rfl)
        rw [hq, show (w.alloc (.cells #[.int .i64 0, .int .i64 n] 3)).heap.size = W.heap.size + 2 from by simp; omega] at this
        exact this
      obtain ⟨k, rfl⟩ : ∃ k : Nat, n = k := ⟨n.toNat, by omega⟩
      have HRC := Lib.hid (fun w hc => reach_any W.heap.size k w (by omega) hc)
      go_enter Tryz.func109, Tryz.ntmps109
      go_wp2_with fail
      refine wp_scope_fwd 1 ?_
      go_wp2_with (first
        | go_step3
        | (go_at_call 154; refine HBG.out.mono ?_; rintro e w2 ⟨rfl, hc, hs, hb⟩; have hcx := hc.1 0 (by omega))
        | (go_at_call 156; refine (HF.out _ hs).mono ?_; rintro e w3 ⟨rfl, hb3⟩)
        | (go_at_call 155; refine (HRC.out _ (hc.below (m := W.heap.size + 1) (((Below.refl _ w2).alloc (by omega) _).trans (hb3.mono (by omega))) (by omega))).mono ?_; rintro e w4 ⟨rfl, ⟨A4, c4, hx4, h41, h42, hA4⟩, hb4, hs4⟩; have hk4 : (k : Int) ≤ (c4 : Int) := by omega))
      rw [fwd_ret]
      refine bodyPost_ret (v := .tuple #[.slice A4 k k, .int .i64 0]) (by simp [results, Tryz.results109, go_sem]) rfl ?_
      exact ⟨⟨_, rfl⟩, hb.trans ((((Below.refl w2.heap.size w2).alloc (Nat.le_refl _) _).trans (hb3.mono (by omega))).mono (by omega) |>.trans (hb4 _ (Nat.le_refl _)))⟩
end Go.Proofs.YtibpagmpdgflmaaGreatDoor
