/- The contract of tree.found at []uint8. Printed by yf.py. Conditions: none. -/
import Derived.Test.YtibpagmpdgflmaaGreatDoorZYD
namespace Go.Proofs.YtibpagmpdgflmaaGreatDoor
open Go.RowKit Go.Maps Go.WideMaps Go.Sort Go.Shelf
attribute [local go_sem] Oper.semAt_some

/-- A file's bytes. -/
def offB (nd : NodeP) : Int := if nd.kids.isSome then 204 else 0
def saysB (b : Nat) (nd : NodeP) (v : Value) (w : World) : Prop := ∃ A k c, v = .slice A k c ∧ nd.bytes.length = k ∧ k ≤ c ∧ c ≤ maxLen ∧ RowAt w A (nd.bytes.map encB) ∧ FreshA b A ∧ (A = none → c = 0)
theorem saysB_form {b : Nat} {nd : NodeP} {v : Value} {w : World} (h : saysB b nd v w) : ∃ A k c, v = .slice A k c := by obtain ⟨A, k, c, h, _⟩ := h; exact ⟨A, k, c, h⟩
theorem saysB.mono_ {b b' : Nat} {nd : NodeP} {v : Value} {w : World} (h : saysB b nd v w) (hb : b' ≤ b) : saysB b' nd v w := by
  obtain ⟨A, k, c, h1, h2, h3, h4, h5, h6⟩ := h
  exact ⟨A, k, c, h1, h2, h3, h4, h5, h6.1.mono hb, h6.2⟩
theorem saysB.set_ {b X : Nat} {nd : NodeP} {v c u : Value} {w : World} (h : saysB b nd v w) (hc : w.cell? ⟨X, 0, none⟩ = some c) (hz : c = .slice none 0 0 ∨ c = .int .i64 0) : saysB b nd v (w.setCell ⟨X, 0, none⟩ u) := by
  obtain ⟨A, k, cc, h1, h2, h3, h4, h5, h6⟩ := h
  exact ⟨A, k, cc, h1, h2, h3, h4, row_set hc (fun x => by rcases hz with rfl | rfl; exact slice_not _ _ _ x; exact i64_not _ x) h5, h6⟩
set_option maxRecDepth 100000 in
theorem tellB_any (n : Nat) (nd : NodeP) (W : World) (h : NodeAt W n nd) (hS : (∀ m D, nd.kids = some (m, D) → Maps.size D ≤ 1000000) ∧ nd.bytes.length ≤ 448 ∧ nd.links ≤ 200) :
    Calls Tryz.prog 169 #[.pointer (some ⟨n, 0, none⟩)] W fun e W' => (if offB nd = 0 then ∃ v, e = .returned v ∧ saysB W.heap.size nd v W' else e = .panicked [errE (offB nd)]) ∧ Below W.heap.size W W' := by
  have HD := Lib.hid (tdir_any n nd W h)
  have HM := Lib.hid tmust_any
  obtain ⟨A, k, c, c1, h2, h3, h4, h5, _, hP⟩ := h.byt
  unfold offB
  cases hk : nd.kids.isSome with
  | true =>
    rw [hk] at HD
    go_enter Tryz.func169, Tryz.ntmps169
    go_wp2_with (first
      | (go_at_call 113; refine HD.out.mono ?_; rintro e w2 ⟨rfl, rfl⟩)
      | (go_at_call 130; refine (HM.out _ _ _).mono ?_; rintro e w2 ⟨rfl, rfl⟩))
    exact ⟨rfl, rfl, Below.refl _ _⟩
  | false =>
    rw [hk] at HD
    have HCL := Lib.hid (clone_bytes A k c nd.bytes W h2 (by omega) hP h5)
    go_enter Tryz.func169, Tryz.ntmps169
    go_wp2_with (first
      | (go_at_call 113; refine HD.out.mono ?_; rintro e w2 ⟨rfl, rfl⟩)
      | (go_at_call 130; refine (HM.out _ _ _).mono ?_; rintro e w2 ⟨rfl, rfl⟩)
      | (go_at_call 83; refine HCL.out.mono ?_; rintro e w3 ⟨A3, c3, rfl, q1, q2, q3, q4, q5, hb3⟩))
    go_ret
    exact ⟨⟨_, rfl, A3, k, c3, rfl, h2, q1, q2, q3, q4, q5⟩, hb3⟩
theorem found1B_any (K : Nat) (k0 : Value) (w : World) (hc : w.cell? ⟨K, 0, none⟩ = some k0) (hf : w.frozen? ⟨K, 0, none⟩ = false) :
    Calls Tryz.prog 194 #[.pointer (some ⟨K, 0, none⟩)] w fun e w' => e = .returned (.tuple #[]) ∧ w' = w.setCell ⟨K, 0, none⟩ (.slice none 0 0) := by
  go_enter Tryz.func194, Tryz.ntmps194
  go_wp2
  go_end0
  exact ⟨rfl, rfl⟩
theorem foundB_put (d : Nat) (h6 : d ≠ 6) (h7 : d ≠ 7) (v : Value) (tmps : Array Value) : results Tryz.f168 (tmps.setIfInBounds d v) = results Tryz.f168 tmps := by
  have e6 : (tmps.setIfInBounds d v)[6]? = tmps[6]? := by
    simp [Array.getElem?_setIfInBounds, h6]
  have e7 : (tmps.setIfInBounds d v)[7]? = tmps[7]? := by
    simp [Array.getElem?_setIfInBounds, h7]
  unfold results
  rw [Tryz.results168]
  simp [e6, e7]
theorem foundB_out (d : Nat) (h6 : d ≠ 6) (h7 : d ≠ 7) (v : Value) {R : Ending → World → Prop} (c : List PanicEntry) (a : Act) (w : World) (h : bodyPostD Tryz.prog Tryz.f168 R (.panic c) (a.put (some d) v) w) : bodyPostD Tryz.prog Tryz.f168 R (.panic c) a w :=
  leaves_congr (foundB_put d h6 h7 v a.tmps) _ _ _ h
set_option maxRecDepth 100000 in
set_option maxHeartbeats 4000000 in
theorem foundB_any (g : GrP) (T root : Nat) (s : ByteArray) (W : World) (hs : s.size < 4294967281) (h : GAt W g) (hr : (g root).isSome) (hT : W.cell? ⟨T, 0, none⟩ = some (.pointer (some ⟨root, 0, none⟩))) (hroom : Small g 1000000) :
    Calls Tryz.prog 168 #[.pointer (some ⟨T, 0, none⟩), .string s, .func (.func 169) #[] #[]] W (FoundR (offB) (saysB W.heap.size) (.slice none 0 0) g root (bytesOf s) W) := by
  have hmf : ∀ (fn : Fn) (first cap : Array Value) (w : World), (Instr.makeFunc fn first cap).run Tryz.prog w = .ok (.func fn first cap) w := fun _ _ _ _ => rfl
  have hmx : Tryz.prog.follows .mixedOrders = true := by kernel_rfl
  have hTl : T < W.heap.size := World.block_lt_of_cell? W ⟨T, 0, none⟩ hT
  unfold FoundR
  obtain ⟨W0, hW0⟩ : ∃ W0, ((W.alloc (.cells #[.slice none 0 0] 25)).alloc (.cells #[.int .i64 0] 22)).alloc (.cells #[.string s] 9) = W0 := ⟨_, rfl⟩
  have hb0 : Below W.heap.size W W0 := by rw [← hW0]; exact ((((Below.refl _ _).alloc (Nat.le_refl _) _).alloc (by simp) _).alloc (by simp; omega) _)
  have hs0 : W0.heap.size = W.heap.size + 3 := by rw [← hW0]; simp
  have HCK : Hid (CellsAt W0 W.heap.size 1 (fun _ => .slice none 0 0)) := by
    rw [Hid, ← hW0]
    exact (cellsAt_new W #[.slice none 0 0] 25 1 _ fun i hi => by rw [show i = 0 from by omega]; rfl).below (m := W.heap.size + 1) (((Below.refl _ _).alloc (by simp) _).alloc (by simp) _) (by omega)
  have HCE : Hid (CellsAt W0 (W.heap.size + 1) 1 (fun _ => .int .i64 0)) := by
    rw [Hid, ← hW0]
    have := cellsAt_new (W.alloc (.cells #[.slice none 0 0] 25)) #[.int .i64 0] 22 1 (fun _ => .int .i64 0) fun i hi => by rw [show i = 0 from by omega]; rfl
    rw [show (W.alloc (.cells #[.slice none 0 0] 25)).heap.size = W.heap.size + 1 from by simp] at this
    exact this.below (m := W.heap.size + 2) ((Below.refl _ _).alloc (by simp) _) (by omega)
  have hcs : W0.cell? ⟨W.heap.size + 1 + 1, 0, none⟩ = some (.string s) := by
    rw [← hW0]
    have := cell_new ((W.alloc (.cells #[.slice none 0 0] 25)).alloc (.cells #[.int .i64 0] 22)) #[.string s] 9 0 _ rfl
    rw [show ((W.alloc (.cells #[.slice none 0 0] 25)).alloc (.cells #[.int .i64 0] 22)).heap.size = W.heap.size + 1 + 1 from by simp] at this
    exact this
  have hT0 : W0.cell? ⟨T, 0, none⟩ = some (.pointer (some ⟨root, 0, none⟩)) := (hb0.cell (p := ⟨T, 0, none⟩) hTl).trans hT
  have HRD := Lib.hid (tread_any T root (W.heap.size + 1 + 1) s W0 hs hT0 hcs)
  have HG0 := Lib.hid (h.below hb0)
  have HB0 := Lib.hid hb0
  have HW0 := Lib.hid hW0
  clear hW0 hb0 h hT
  unfold ReadT at HRD
  by_cases hz : (readP (bytesOf s)).1 = 0
  · rw [if_pos hz] at HRD
    go_enter_defers Tryz.func168, Tryz.ntmps168
    go_wp2_with (first
      | (go_at_call 161; rw [HW0.out]; refine HRD.out.mono ?_; rintro e w2 ⟨rfl, hb2⟩))
    have hG2 := HG0.out.below hb2
    have hT2 : w2.cell? ⟨T, 0, none⟩ = some (.pointer (some ⟨root, 0, none⟩)) := (hb2.cell (p := ⟨T, 0, none⟩) (by show T < W0.heap.size; omega)).trans hT0
    have hs2 : W.heap.size + 3 ≤ w2.heap.size := by have := hb2.size; omega
    have HS := Lib.hid (tsplit_any s w2.drew hs)
    unfold SplitT at HS
    simp only [hz, if_true] at HS
    have hS0 : w2.drew.cell? ⟨T, 0, none⟩ = some (.pointer (some ⟨root, 0, none⟩)) := hT2
    refine (wpIn_wide (n := 10)).1 ?_
    refine whichever_region (fun w => w.cell? ⟨T, 0, none⟩ = some (.pointer (some ⟨root, 0, none⟩))) [9, 10] hmx ?_
    refine whichever_take 0 (.func (.func 169) #[] #[]) [9, 10] rfl (by kernel_rfl) (fun _ _ _ h => foundB_out 13 (by decide) (by decide) _ _ _ _ h) hS0 (by rfl) (fun w hw => ?_) ?_
    · constructor <;> go_simp
    refine whichever_take 1 (.pointer (some ⟨T, 0, none⟩)) [9, 10] rfl (by kernel_rfl) (fun _ _ _ h => foundB_out 14 (by decide) (by decide) _ _ _ _ h) hS0 (by rfl) (fun w hw => ?_) ?_
    · constructor <;> go_simp
    refine whichever_take 2 (.pointer (some ⟨T, 0, none⟩)) [9, 10] rfl (by kernel_rfl) (fun _ _ _ h => foundB_out 15 (by decide) (by decide) _ _ _ _ h) hS0 (by rfl) (fun w hw => ?_) ?_
    · constructor <;> go_simp
    refine whichever_take 3 (.pointer (some ⟨T, 0, none⟩)) [9, 10] rfl (by kernel_rfl) (fun _ _ _ h => foundB_out 16 (by decide) (by decide) _ _ _ _ h) hS0 (by rfl) (fun w hw => ?_) ?_
    · constructor <;> go_simp
    refine whichever_take 4 (.pointer (some ⟨root, 0, none⟩)) [9, 10] rfl (by kernel_rfl) (fun _ _ _ h => foundB_out 17 (by decide) (by decide) _ _ _ _ h) hS0 (by rfl) (fun w hw => ?_) ?_
    · constructor <;> go_simp
    refine whichever_take 5 (.string s) [9, 10] rfl (by kernel_rfl) (fun _ _ _ h => foundB_out 18 (by decide) (by decide) _ _ _ _ h) hS0 (by rfl) (fun w hw => ?_) ?_
    · constructor <;> go_simp
    refine whichever_next 6 rfl (by kernel_rfl) (by rfl) ?_
    go_simp
    refine ⟨trivial, callsIn_wide.2 (HS.out.mono ?_)⟩
    rintro e w3 ⟨⟨A, c, rfl, hc1, hc2, hrow⟩, hb3⟩
    have hT3 : w3.cell? ⟨T, 0, none⟩ = some (.pointer (some ⟨root, 0, none⟩)) := (hb3.cell (p := ⟨T, 0, none⟩) (by show T < w2.heap.size; omega)).trans hT2
    refine ⟨hT3, ?_⟩
    have hG3 : GAt w3 g := hG2.below ((Below.refl w2.heap.size w2).drew.trans hb3)
    have hfine : (readP (bytesOf s)).2.length ≤ 16 ∧ ∀ x ∈ (readP (bytesOf s)).2, x.length ≤ 40 := by
      rcases readP_cases (bytesOf s) with h | h
      · exact h.2.1
      · rw [h.2]; exact ⟨by simp, by simp⟩
    have hlen1 : (readP (bytesOf s)).2.length ≤ 100000 := by have := hfine.1; omega
    have hlen2 : ∀ x ∈ (readP (bytesOf s)).2, x.length ≤ 100000 := fun x hx => by have := hfine.2 x hx; omega
    have HW := Lib.hid (twalked_any g (readP (bytesOf s)).2 A (readP (bytesOf s)).2.length c root w3 hG3 hr rfl hlen1 hlen2 hrow)
    have hbe : Below W0.heap.size W0 w3 := hb2.trans (((Below.refl w2.heap.size w2).drew.trans hb3).mono hb2.size)
    refine whichever_next 7 rfl (by kernel_rfl) (by rfl) ?_
    go_simp
    refine ⟨trivial, callsIn_wide.2 (HW.out.mono ?_)⟩
    rintro e w4 ⟨he, hsome, rfl⟩
    rcases hwg : walkG g (readP (bytesOf s)).2 root with ⟨b, cc⟩
    rw [hwg] at he hsome
    simp only at he hsome
    by_cases hcc : cc = 0
    · subst hcc
      rw [if_pos rfl] at he
      subst he
      obtain ⟨nd, hnd⟩ := Option.isSome_iff_exists.1 (hsome rfl)
      have HND := Lib.hid (tellB_any b nd w4 (hG3.node b nd hnd) ⟨fun m D hm => hroom.1 b nd m D hnd hm, hroom.2 b nd hnd⟩)
      have HR2 : Hid (errAt (offB) g root (bytesOf s) = offB nd) := by
        rw [Hid]; unfold errAt; rw [if_neg (by rw [hz]; exact fun h => h rfl), hwg]; simp only; rw [hnd]
      have HAT : Hid (g (nodeAt g root (bytesOf s)) = some nd) := by
        rw [Hid]; unfold nodeAt; rw [hwg]; exact hnd
      simp only
      refine ⟨hT3, ?_⟩
      refine whichever_next 8 rfl (by kernel_rfl) (by rfl) ?_
      go_simp
      refine ⟨trivial, callsIn_wide.2 (HND.out.mono ?_)⟩
      rintro e w5 ⟨he, hb5⟩
      have hb5' : Below W0.heap.size W0 w5 := hbe.trans (hb5.mono hbe.size)
      by_cases hce : offB nd = 0
      · rw [if_pos hce] at he
        obtain ⟨v, rfl, hv⟩ := he
        obtain ⟨A1, kk1, cc1, rfl⟩ := saysB_form hv
        have hT5 : w5.cell? ⟨T, 0, none⟩ = some (.pointer (some ⟨root, 0, none⟩)) := (hb5.cell (p := ⟨T, 0, none⟩) (World.block_lt_of_cell? w4 ⟨T, 0, none⟩ hT3)).trans hT3
        refine ⟨hT5, ?_⟩
        have hE := HCE.out.below hb5' (by omega)
        have hK := HCK.out.below hb5' (by omega)
        have k0 := hK.1 0 (by omega)
        have k1 := hK.2 0
        have e0 := hE.1 0 (by omega)
        have e1 := hE.2 0
        have HV := Lib.hid hv
        clear hv
        refine whichever_next 9 rfl (by kernel_rfl) (by rfl) ?_
        go_simp
        refine whichever_next 10 rfl (by kernel_rfl) (by rfl) ?_
        go_simp
        refine whichever_end (by kernel_rfl) ?_
        rename_i K hK2
        refine hK2 _ _ ?_
        go_wp2_with fail
        refine leaves_cons (f := 159) (args := #[.pointer (some ⟨W.heap.size + 1, 0, none⟩), .func (.func 194) #[] #[.pointer (some ⟨W.heap.size, 0, none⟩)]]) (by simp) (by simp [go_sem]) ?_
        refine (tree_catches.idle _ _ _).mono ?_
        rintro e u' w6 ⟨rfl, rfl, rfl⟩
        have k3 : ((w5.setCell ⟨W.heap.size, 0, none⟩ (.slice A1 kk1 cc1)).setCell ⟨W.heap.size + 1, 0, none⟩ (.int .i64 0)).cell? ⟨W.heap.size, 0, none⟩ = some (.slice A1 kk1 cc1) :=
          (World.cell?_setCell_other _ _ _ _ (by intro e; injection e with e; omega)).trans (World.cell?_setCell_same' _ _ _ (by rw [k0]; rfl))
        have e4 : (w5.setCell ⟨W.heap.size, 0, none⟩ (.slice A1 kk1 cc1)).cell? ⟨W.heap.size + 1, 0, none⟩ = some (.int .i64 0) := (World.cell?_setCell_other _ _ _ _ (by intro e; injection e with e; omega)).trans e0
        have e3 : ((w5.setCell ⟨W.heap.size, 0, none⟩ (.slice A1 kk1 cc1)).setCell ⟨W.heap.size + 1, 0, none⟩ (.int .i64 0)).cell? ⟨W.heap.size + 1, 0, none⟩ = some (.int .i64 0) :=
          World.cell?_setCell_same' _ _ _ (by rw [e4]; rfl)
        have v3 : saysB W.heap.size nd (.slice A1 kk1 cc1) ((w5.setCell ⟨W.heap.size, 0, none⟩ (.slice A1 kk1 cc1)).setCell ⟨W.heap.size + 1, 0, none⟩ (.int .i64 0)) := (HV.out.mono_ (by have := hb5'.size; have := hbe.size; omega) |>.set_ k0 (.inl rfl)).set_ e4 (.inr rfl)
        have b3 : Below W.heap.size W ((w5.setCell ⟨W.heap.size, 0, none⟩ (.slice A1 kk1 cc1)).setCell ⟨W.heap.size + 1, 0, none⟩ (.int .i64 0)) :=
          ((HB0.out.trans (hb5'.mono (by omega))).setCell (Nat.le_refl _) _).setCell (by show W.heap.size ≤ W.heap.size + 1; omega) _
        generalize (w5.setCell ⟨W.heap.size, 0, none⟩ (.slice A1 kk1 cc1)).setCell ⟨W.heap.size + 1, 0, none⟩ (.int .i64 0) = wq at *
        simp [Leaves, settle, results, Tryz.results168, go_sem, e3, k3]
        exact ⟨_, by rw [HR2.out, hce]; exact ⟨rfl, rfl⟩, fun _ => ⟨nd, HAT.out, v3⟩, fun h => absurd (HR2.out.trans hce) h, b3⟩
      · rw [if_neg hce] at he
        subst he
        simp only
        have _ := True.intro
        have hE := HCE.out.below hb5' (by omega)
        have hK := HCK.out.below hb5' (by omega)
        have hKl : W.heap.size < (w5).heap.size := by have := (hb5').size; omega
        refine leaves_cons (f := 159) (args := #[.pointer (some ⟨W.heap.size + 1, 0, none⟩), .func (.func 194) #[] #[.pointer (some ⟨W.heap.size, 0, none⟩)]]) (by simp) (by simp [go_sem]) ?_
        refine (tree_catches.err (W.heap.size + 1) 194 #[.pointer (some ⟨W.heap.size, 0, none⟩)] (offB nd) [] _ _ w5 (hE.1 0 (by omega)) (hE.2 0) (enters_of Tryz.func194 (by kernel_rfl) rfl _) (found1B_any W.heap.size _ _ ((hK.set (B := W.heap.size + 1) (i := 0) (v := .int .i64 (offB nd)) (by omega)).1 0 (by omega)) ((hK.set (B := W.heap.size + 1) (i := 0) (v := .int .i64 (offB nd)) (by omega)).2 0))).mono ?_
        rintro e u' wz ⟨rfl, rfl, rfl⟩
        have e3 : (((w5).setCell ⟨W.heap.size + 1, 0, none⟩ (.int .i64 (offB nd))).setCell ⟨W.heap.size, 0, none⟩ (.slice none 0 0)).cell? ⟨W.heap.size + 1, 0, none⟩ = some (.int .i64 (offB nd)) :=
          (World.cell?_setCell_other _ _ _ _ (by intro e; injection e with e; omega)).trans (World.cell?_setCell_same' _ _ _ (by rw [hE.1 0 (by omega)]; rfl))
        have k3 : (((w5).setCell ⟨W.heap.size + 1, 0, none⟩ (.int .i64 (offB nd))).setCell ⟨W.heap.size, 0, none⟩ (.slice none 0 0)).cell? ⟨W.heap.size, 0, none⟩ = some (.slice none 0 0) :=
          World.cell?_setCell_same' _ _ _ (by rw [(hK.set (B := W.heap.size + 1) (i := 0) (v := .int .i64 (offB nd)) (by omega)).1 0 (by omega)]; rfl)
        have b3 : Below W.heap.size W (((w5).setCell ⟨W.heap.size + 1, 0, none⟩ (.int .i64 (offB nd))).setCell ⟨W.heap.size, 0, none⟩ (.slice none 0 0)) :=
          ((HB0.out.trans ((hb5').mono (by omega))).setCell (by show W.heap.size ≤ W.heap.size + 1; omega) _).setCell (Nat.le_refl _) _
        generalize ((w5).setCell ⟨W.heap.size + 1, 0, none⟩ (.int .i64 (offB nd))).setCell ⟨W.heap.size, 0, none⟩ (.slice none 0 0) = wq at *
        simp [Leaves, settle, results, Tryz.results168, go_sem, e3, k3]
        exact ⟨_, by rw [HR2.out]; exact ⟨rfl, rfl⟩, fun h => absurd h (by rw [HR2.out]; exact hce), fun _ => rfl, b3⟩
    · rw [if_neg hcc] at he
      subst he
      simp only
      have HR2 : Hid (errAt (offB) g root (bytesOf s) = cc) := by
        rw [Hid]; unfold errAt; rw [if_neg (by rw [hz]; exact fun h => h rfl), hwg]
        cases cc with
        | zero => exact absurd rfl hcc
        | succ n => rfl
      have hE := HCE.out.below hbe (by omega)
      have hK := HCK.out.below hbe (by omega)
      have hKl : W.heap.size < (w4).heap.size := by have := (hbe).size; omega
      refine leaves_cons (f := 159) (args := #[.pointer (some ⟨W.heap.size + 1, 0, none⟩), .func (.func 194) #[] #[.pointer (some ⟨W.heap.size, 0, none⟩)]]) (by simp) (by simp [go_sem]) ?_
      refine (tree_catches.err (W.heap.size + 1) 194 #[.pointer (some ⟨W.heap.size, 0, none⟩)] ((cc : Nat) : Int) [] _ _ w4 (hE.1 0 (by omega)) (hE.2 0) (enters_of Tryz.func194 (by kernel_rfl) rfl _) (found1B_any W.heap.size _ _ ((hK.set (B := W.heap.size + 1) (i := 0) (v := .int .i64 ((cc : Nat) : Int)) (by omega)).1 0 (by omega)) ((hK.set (B := W.heap.size + 1) (i := 0) (v := .int .i64 ((cc : Nat) : Int)) (by omega)).2 0))).mono ?_
      rintro e u' wz ⟨rfl, rfl, rfl⟩
      have e3 : (((w4).setCell ⟨W.heap.size + 1, 0, none⟩ (.int .i64 ((cc : Nat) : Int))).setCell ⟨W.heap.size, 0, none⟩ (.slice none 0 0)).cell? ⟨W.heap.size + 1, 0, none⟩ = some (.int .i64 ((cc : Nat) : Int)) :=
        (World.cell?_setCell_other _ _ _ _ (by intro e; injection e with e; omega)).trans (World.cell?_setCell_same' _ _ _ (by rw [hE.1 0 (by omega)]; rfl))
      have k3 : (((w4).setCell ⟨W.heap.size + 1, 0, none⟩ (.int .i64 ((cc : Nat) : Int))).setCell ⟨W.heap.size, 0, none⟩ (.slice none 0 0)).cell? ⟨W.heap.size, 0, none⟩ = some (.slice none 0 0) :=
        World.cell?_setCell_same' _ _ _ (by rw [(hK.set (B := W.heap.size + 1) (i := 0) (v := .int .i64 ((cc : Nat) : Int)) (by omega)).1 0 (by omega)]; rfl)
      have b3 : Below W.heap.size W (((w4).setCell ⟨W.heap.size + 1, 0, none⟩ (.int .i64 ((cc : Nat) : Int))).setCell ⟨W.heap.size, 0, none⟩ (.slice none 0 0)) :=
        ((HB0.out.trans ((hbe).mono (by omega))).setCell (by show W.heap.size ≤ W.heap.size + 1; omega) _).setCell (Nat.le_refl _) _
      generalize ((w4).setCell ⟨W.heap.size + 1, 0, none⟩ (.int .i64 ((cc : Nat) : Int))).setCell ⟨W.heap.size, 0, none⟩ (.slice none 0 0) = wq at *
      simp [Leaves, settle, results, Tryz.results168, go_sem, e3, k3]
      exact ⟨_, by rw [HR2.out]; exact ⟨rfl, rfl⟩, fun h => absurd h (by rw [HR2.out]; omega), fun _ => rfl, b3⟩
  · rw [if_neg hz] at HRD
    go_enter_defers Tryz.func168, Tryz.ntmps168
    go_wp2_with (first
      | (go_at_call 161; rw [HW0.out]; refine HRD.out.mono ?_; rintro e w2 ⟨rfl, hb2⟩))
    have HR2 : Hid (errAt (offB) g root (bytesOf s) = (readP (bytesOf s)).1) := by
      rw [Hid]; unfold errAt; rw [if_pos hz]
    have hE := HCE.out.below hb2 (by omega)
    have hK := HCK.out.below hb2 (by omega)
    have hKl : W.heap.size < (w2).heap.size := by have := (hb2).size; omega
    refine leaves_cons (f := 159) (args := #[.pointer (some ⟨W.heap.size + 1, 0, none⟩), .func (.func 194) #[] #[.pointer (some ⟨W.heap.size, 0, none⟩)]]) (by simp) (by simp [go_sem]) ?_
    refine (tree_catches.err (W.heap.size + 1) 194 #[.pointer (some ⟨W.heap.size, 0, none⟩)] (readP (bytesOf s)).1 [] _ _ w2 (hE.1 0 (by omega)) (hE.2 0) (enters_of Tryz.func194 (by kernel_rfl) rfl _) (found1B_any W.heap.size _ _ ((hK.set (B := W.heap.size + 1) (i := 0) (v := .int .i64 (readP (bytesOf s)).1) (by omega)).1 0 (by omega)) ((hK.set (B := W.heap.size + 1) (i := 0) (v := .int .i64 (readP (bytesOf s)).1) (by omega)).2 0))).mono ?_
    rintro e u' wz ⟨rfl, rfl, rfl⟩
    have e3 : (((w2).setCell ⟨W.heap.size + 1, 0, none⟩ (.int .i64 (readP (bytesOf s)).1)).setCell ⟨W.heap.size, 0, none⟩ (.slice none 0 0)).cell? ⟨W.heap.size + 1, 0, none⟩ = some (.int .i64 (readP (bytesOf s)).1) :=
      (World.cell?_setCell_other _ _ _ _ (by intro e; injection e with e; omega)).trans (World.cell?_setCell_same' _ _ _ (by rw [hE.1 0 (by omega)]; rfl))
    have k3 : (((w2).setCell ⟨W.heap.size + 1, 0, none⟩ (.int .i64 (readP (bytesOf s)).1)).setCell ⟨W.heap.size, 0, none⟩ (.slice none 0 0)).cell? ⟨W.heap.size, 0, none⟩ = some (.slice none 0 0) :=
      World.cell?_setCell_same' _ _ _ (by rw [(hK.set (B := W.heap.size + 1) (i := 0) (v := .int .i64 (readP (bytesOf s)).1) (by omega)).1 0 (by omega)]; rfl)
    have b3 : Below W.heap.size W (((w2).setCell ⟨W.heap.size + 1, 0, none⟩ (.int .i64 (readP (bytesOf s)).1)).setCell ⟨W.heap.size, 0, none⟩ (.slice none 0 0)) :=
      ((HB0.out.trans ((hb2).mono (by omega))).setCell (by show W.heap.size ≤ W.heap.size + 1; omega) _).setCell (Nat.le_refl _) _
    generalize ((w2).setCell ⟨W.heap.size + 1, 0, none⟩ (.int .i64 (readP (bytesOf s)).1)).setCell ⟨W.heap.size, 0, none⟩ (.slice none 0 0) = wq at *
    simp [Leaves, settle, results, Tryz.results168, go_sem, e3, k3]
    exact ⟨_, by rw [HR2.out]; exact ⟨rfl, rfl⟩, fun h => absurd h (by rw [HR2.out]; exact hz), fun _ => rfl, b3⟩
theorem bytesT_any (g : GrP) (T root : Nat) (s : ByteArray) (W : World) (hs : s.size < 4294967281) (h : GAt W g) (hr : (g root).isSome) (hT : W.cell? ⟨T, 0, none⟩ = some (.pointer (some ⟨root, 0, none⟩))) (hroom : Small g 1000000) :
    Calls Tryz.prog 125 #[.pointer (some ⟨T, 0, none⟩), .string s] W (FoundR (offB) (saysB W.heap.size) (.slice none 0 0) g root (bytesOf s) W) := by
  have HF := Lib.hid (foundB_any g T root s W hs h hr hT hroom)
  clear h hr hT
  unfold FoundR at *
  generalize errAt (offB) g root (bytesOf s) = r at *
  go_enter Tryz.func125, Tryz.ntmps125
  go_wp2_with (go_at_call 168; refine HF.out.mono ?_; rintro e w2 ⟨v, rfl, h1, h2, hb⟩)
  go_ret2
  exact ⟨v, rfl, h1, h2, hb⟩
end Go.Proofs.YtibpagmpdgflmaaGreatDoor
