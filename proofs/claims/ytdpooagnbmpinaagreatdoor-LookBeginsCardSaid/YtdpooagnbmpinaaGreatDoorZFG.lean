/- The law LookHolds as a call, up to behind its second look. The law LookHolds as a call, at whatever arguments. The law LookBegins as a call. Conditions: none. -/
import Derived.Test.YtdpooagnbmpinaaGreatDoorZFC
import Derived.Test.YtdpooagnbmpinaaGreatDoorZK9
import Derived.Deep.CutRange
import Derived.Deep.QuietTactic
import Derived.BigQuiet
namespace Go.Proofs.YtdpooagnbmpinaaGreatDoor
open Go.RowKit
attribute [local go_sem] Oper.semAt_some

/-- append(own, others...), whatever the others are: nil, empty or a row: what it runs to. -/
theorem run_append_row {P : Program} (w : World) (t ty : TypeId) (base : Nat) (e : TypeId) (i : TypeInfo) (z : Value) (bytes : Nat) (ht : P.underlying t = some (.slice e)) (hi : P.info? e = some i) (hz : i.zero = some z)
    (hsize : i.size = 1) (hby : i.bytes = bytes) (hzs : z.cells.size = 1) (v : Value) (n : Nat) (xs : List Value) (hown : w.ownsRow base e 1 v n xs)
    (A : Option Addr) (m c : Nat) (news : List Value) (hl : news.length = m) (hr : RowAt w A news) (h1 : ∀ u ∈ news, u.oneCell' = true)
    (h63 : n + m ≤ maxLen) (hbytes : (n + m) * bytes ≤ 140737488355328) (hbase : base ≤ w.heap.size) :
    ∃ v' w', (Builtin.append_ #[t, t] ty #[v, .slice A m c]).run P w = .ok v' w' ∧ w'.ownsRow base e 1 v' (n + m) (xs ++ news) ∧ w.grownBy w' v.ownBlock := by
  rcases Nat.eq_zero_or_pos m with h0 | h0
  · subst h0
    have hn : news = [] := List.eq_nil_of_length_eq_zero hl
    subst hn
    cases A with
    | none =>
      refine ⟨v, w, ?_, by simpa using hown, ⟨rfl, rfl, rfl, Nat.le_refl _, fun _ _ _ => rfl⟩⟩
      rcases hown.2 with ⟨rfl, rfl⟩ | ⟨g, cap, cur, rfl, _, _, hnc, _⟩
      · simp [Builtin.append_, run_underlying ht, sizeOf, typeInfo, hi, Builtin.lenOf, Builtin.firstCells]
      · simp [Builtin.append_, run_underlying ht, sizeOf, typeInfo, hi, Builtin.lenOf, Builtin.firstCells, hnc, storeCells]
    | some ad =>
      obtain ⟨v', w', h2, h3, h4, _⟩ := run_append_own (P := P) w base t ty e i z 1 bytes ht hi hz hsize hby hzs (by decide) v n xs hown ad 0 c [] rfl (fun j u hu => by simp at hu) h1 h63 hbytes hbase
      exact ⟨v', w', h2, h3, h4⟩
  · obtain ⟨b, off, rfl, _, hcl⟩ := hr (by omega)
    obtain ⟨v', w', h2, h3, h4, _⟩ := run_append_own (P := P) w base t ty e i z 1 bytes ht hi hz hsize hby hzs (by decide) v n xs hown ⟨b, off, none⟩ m c news (by omega) (fun j u hu => by rw [plain_add]; exact hcl j u hu) h1 h63 hbytes hbase
    exact ⟨v', w', h2, h3, h4⟩
/-- An append whose outcome is known, at a step of a region. -/
theorem wpIn_append_known {n : Nat} {P : Program} {o : Oper} {a : Act} {w : World} {K : Act → World → Prop} {Q : Exit → Act → World → Prop} (s x : Operand) (t u : TypeId)
    (ho : o.op = .call { callee := .builtin .append, args := #[s, x], argTypes := #[t, u] }) (vs vx v : Value) (w' : World) (hs : a.eval s = vs) (hx : a.eval x = vx) (hr : (Builtin.append_ #[t, u] o.type #[vs, vx]).run P w = .ok v w')
    (h : K (a.put o.dst v) w') : o.wpIn Fence.wide n P a w K Q := by
  refine ⟨fun _ _ => trivial, ?_⟩
  have e : (o.semAt Fence.wide.round a.eval).run P w = .ok (.value v) w' := by
    show (execOp a.eval o).run P w = _
    unfold execOp
    simp only [ho, resolve, invoke, builtin, Sem.run_bind, Sem.run_pure, Result.andThen_ok, List.map_toArray, List.map_cons, List.map_nil, hs, hx, hr]
  rw [e]
  exact h
/-- A block of another type is not the row's own. -/
theorem off_row {w : World} {base : Nat} {e T : TypeId} {size n Y : Nat} {v : Value} {xs : List Value} {cs : Array Value} (h : w.ownsRow base e size v n xs) (hY : w.heap[Y]? = some (.cells cs T)) (hne : T ≠ e) : v.ownBlock ≠ some Y := by
  rcases h.2 with ⟨rfl, _⟩ | ⟨g, cap, cur, rfl, _, hg, _⟩
  · simp [Value.ownBlock]
  · intro e'
    simp only [Value.ownBlock, Option.some.injEq] at e'
    subst e'
    rw [hg] at hY
    injection hY with hY
    injection hY with _ hT
    exact hne hT.symm
theorem own_keep {w w' : World} {base : Nat} {e : TypeId} {size n : Nat} {v : Value} {xs : List Value} (h : w.ownsRow base e size v n xs) (hb : Below w.heap.size w w') : w'.ownsRow base e size v n xs := by
  refine ⟨h.1, ?_⟩
  rcases h.2 with h2 | ⟨g, cap, cur, h3, h4, hg, h5⟩
  · exact .inl h2
  · exact .inr ⟨g, cap, cur, h3, h4, (hb.block g (Array.getElem?_eq_some_iff.1 hg).1).trans hg, h5⟩
theorem cells_block {w : World} {Y : Nat} (h : w.heap[Y]? = some (.cells #[.bool false, .int .i64 0, .int .i64 0, .int .i64 0, .int .i64 0, .int .i64 0, .int .i64 0, .slice none 0 0, .slice none 0 0] 35)) : CellsAt w Y 9 (cellsLk lookZero none 0 0 none 0 0) := by
  refine ⟨fun i hi => ?_, fun i => by simp [World.frozen?, h]⟩
  match i, hi with
  | 0, _ => simp [World.cell?, h, cellsLk, lookZero]
  | 1, _ => simp [World.cell?, h, cellsLk, lookZero]
  | 2, _ => simp [World.cell?, h, cellsLk, lookZero]
  | 3, _ => simp [World.cell?, h, cellsLk, lookZero, resZero]
  | 4, _ => simp [World.cell?, h, cellsLk, lookZero, resZero]
  | 5, _ => simp [World.cell?, h, cellsLk, lookZero, resZero]
  | 6, _ => simp [World.cell?, h, cellsLk, lookZero, resZero]
  | 7, _ => simp [World.cell?, h, cellsLk, lookZero, resZero]
  | 8, _ => simp [World.cell?, h, cellsLk, lookZero, resZero]
theorem bytesLess_cmp : ∀ a b : List UInt8, Op.bytesLess a b = decide (Lib.compareBytes a b < 0)
  | [], [] => rfl
  | [], _ :: _ => rfl
  | _ :: _, [] => by simp [Op.bytesLess, Lib.compareBytes]
  | a :: s, b :: t => by
    rw [Op.bytesLess, Lib.compareBytes]
    by_cases h1 : a < b
    · simp [h1]
    · by_cases h2 : b < a
      · have : a ≠ b := by rintro rfl; exact u8_lt_irrefl _ h2
        simp [h1, h2, this]
      · have : a = b := u8_tri a b h1 h2
        simp [h1, h2, this, bytesLess_cmp s t]
theorem ofBytes_toList (u : List UInt8) : (ofBytes u).toList = u := by
  rw [ByteArray.toList_eq]; rfl
/-- An operation's cells. -/
def OpC (X : Nat) (k : Int) (p d : ByteArray) (a n : Int) (A : Option Addr) (m c : Nat) (w : World) : Prop := CellsAt w X 6 (cellsOp k p d a n A m c)
/-- What lies in memory when a law of looks begins. -/
structure LawBegun (k : Int) (p d : ByteArray) (a n : Int) (A : Option Addr) (m c : Nat) (W W0 : World) : Prop where
  below : Below W.heap.size W W0
  size : W0.heap.size = W.heap.size + 1
  op : CellsAt W0 W.heap.size 6 (cellsOp k p d a n A m c)
theorem lawBegun (k : Int) (p d : ByteArray) (a n : Int) (A : Option Addr) (m c : Nat) (W W0 : World) (hW0 : W.alloc (.cells #[.int .i64 k, .string p, .string d, .int .i64 a, .int .i64 n, .slice A m c] 28) = W0) : LawBegun k p d a n A m c W W0 := by
  refine ⟨?_, ?_, ?_⟩
  · rw [← hW0]; exact (Below.refl _ _).alloc (Nat.le_refl _) _
  · rw [← hW0]; simp
  · rw [← hW0]
    exact cellsAt_new W _ _ 6 _ fun i hi => match i, hi with | 0, _ => rfl | 1, _ => rfl | 2, _ => rfl | 3, _ => rfl | 4, _ => rfl | 5, _ => rfl
/-- Where the second look lies. -/
def LookLies (B0 : Nat) (wr : World) (l2 : LookP) (z : Int) (s9 s10 : Value) (wx : World) : Prop :=
  ∃ Y NB mn mc BB cn cc, s9 = .pointer (some ⟨Y, 0, none⟩) ∧ s10 = .int .i64 z ∧ CellsAt wx Y 9 (cellsLk l2 NB mn mc BB cn cc) ∧ RowsAt B0 wx l2.res NB mn mc BB cn cc ∧ B0 ≤ Y ∧ Below B0 wr wx
set_option maxRecDepth 400000 in
set_option maxHeartbeats 16000000 in
theorem lookHolds_in (k : Int) (p d : ByteArray) (a n : Int) (A : Option Addr) (m c : Nat) (F G : Option Addr) (fed more : List Nat) (nf nm cf cm : Nat) (l l2 : LookP) (z : Int) (W : World) (hfew : p.size ≤ 200 ∧ d.size ≤ 200 ∧ m ≤ 500)
    (hnf : nf ≤ 150) (hnm : nm ≤ 150) (hfl : fed.length = nf) (hml : more.length = nm) (hrF : RowAt W F (fed.map encW)) (hrG : RowAt W G (more.map encW)) (hn : n < 9223372036854775808)
    (hz : z ≠ 0 ∨ (z = 0 ∧ LaterL nf nm l l2 ∧ ResGood n.toNat l2.res))
    (hA : ∀ W', Below W.heap.size W W' → Calls Tryz.prog 8 #[opV k p d a n A m c, .slice F nf cf] W' (LookR (l, z) W'))
    (hB : ∀ C c' W', Below W.heap.size W W' → RowAt W' C ((fed ++ more).map encW) → Calls Tryz.prog 8 #[opV k p d a n A m c, .slice C (nf + nm) c'] W' (LookR (l2, z) W')) :
    Calls Tryz.prog 4 #[opV k p d a n A m c, .slice F nf cf, .slice G nm cm] W fun e W' => e = .returned (.bool true) ∧ Below W.heap.size W W' := by
  obtain ⟨i0, hi, hz0, hz1, hz2⟩ := info_parts Tryz.infoU64
  have hmx : Tryz.prog.follows .mixedOrders = true := by kernel_rfl
  obtain ⟨W0, hW0⟩ : ∃ W0, W.alloc (.cells #[.int .i64 k, .string p, .string d, .int .i64 a, .int .i64 n, .slice A m c] 28) = W0 := ⟨_, rfl⟩
  have h0 := lawBegun k p d a n A m c W W0 hW0
  have hfw := few22_any k p d a n A m c W0
  rw [decide_eq_true hfew] at hfw
  have hs0 := h0.size
  have hq1 : decide ((150 : Int) < (nf : Int)) = false := decide_eq_false (by omega)
  have hq2 : decide ((150 : Int) < (nm : Int)) = false := decide_eq_false (by omega)
  unfold opV at hfw hA hB ⊢
  have HFW := Lib.hid hfw
  have HA := Lib.hid hA
  have HB := Lib.hid hB
  have H0 := Lib.hid h0
  have HW0 := Lib.hid hW0
  have HRF := Lib.hid hrF
  have HRG := Lib.hid hrG
  have HFL := Lib.hid (show (fed.map encW).length = nf by rw [List.length_map, hfl])
  have HML := Lib.hid (show (more.map encW).length = nm by rw [List.length_map, hml])
  have HZ := Lib.hid hz
  have HWK := Lib.hid works22_any
  have HNM := Lib.hid num22_any
  clear hz
  have H1 : Hid (∀ l : List Nat, ∀ u ∈ l.map encW, u.oneCell' = true) := fun l u hu => by
    obtain ⟨x, _, rfl⟩ := List.mem_map.1 hu; rfl
  clear hfw hA hB h0 hW0 hrF hrG hfl hml hfew
  go_enter Tryz.func4, Tryz.ntmps4
  go_wp2_with (go_at_call 12; rw [HW0.out]; refine HFW.out.mono ?_; rintro e w1 ⟨rfl, hb1⟩; have HO1 := Lib.hid (H0.out.op.below hb1 (by omega)); have HB1 := Lib.hid (H0.out.below.trans (hb1.mono (by omega))); have hs1 : W.heap.size + 1 ≤ w1.heap.size := (by have := hb1.size; omega); have o0 : w1.cell? ⟨W.heap.size, 0, none⟩ = some (.int .i64 k) := HO1.out.1 0 (by omega); have o1 : w1.cell? ⟨W.heap.size, 1, none⟩ = some (.string p) := HO1.out.1 1 (by omega); have o2 : w1.cell? ⟨W.heap.size, 2, none⟩ = some (.string d) := HO1.out.1 2 (by omega); have o3 : w1.cell? ⟨W.heap.size, 3, none⟩ = some (.int .i64 a) := HO1.out.1 3 (by omega); have o4 : w1.cell? ⟨W.heap.size, 4, none⟩ = some (.int .i64 n) := HO1.out.1 4 (by omega); have o5 : w1.cell? ⟨W.heap.size, 5, none⟩ = some (.slice A m c) := HO1.out.1 5 (by omega); clear hb1)
  refine (HA.out w1 HB1.out).mono ?_
  rintro e w2 ⟨⟨NA, nn, nc, BA, bn, bc, rfl, hrow⟩, hb2⟩
  have HO2 := Lib.hid (HO1.out.below hb2 (by omega))
  have HB2 := Lib.hid (HB1.out.trans (hb2.mono (by omega)))
  have hs2 := hb2.size
  have HR2 := Lib.hid hrow
  clear hb2 hrow o0 o1 o2 o3 o4 o5
  unfold lookV
  dsimp only
  go_wp2_with fail
  obtain ⟨X, hX⟩ : ∃ X, w2.heap.size = X := ⟨_, rfl⟩
  obtain ⟨w3, hw3⟩ : ∃ x, w2.alloc (.cells #[.bool l.more, .int .i64 l.at_, .int .i64 l.used, .int .i64 l.res.no, .int .i64 l.res.kind, .int .i64 l.res.links, .int .i64 l.res.n, .slice NA nn nc, .slice BA bn bc] 35) = x := ⟨_, rfl⟩
  have hb3 : Below w2.heap.size w2 w3 := by rw [← hw3]; exact (Below.refl _ _).alloc (Nat.le_refl _) _
  have HX3 : Hid (CellsAt w3 X 9 (cellsLk l NA nn nc BA bn bc)) := by
    rw [Hid, ← hw3, ← hX]
    exact cellsAt_new _ _ _ _ _ fun i hi => match i, hi with | 0, _ => rfl | 1, _ => rfl | 2, _ => rfl | 3, _ => rfl | 4, _ => rfl | 5, _ => rfl | 6, _ => rfl | 7, _ => rfl | 8, _ => rfl
  have HR3 := Lib.hid (HR2.out.below hb3 (by omega))
  have HO3 := Lib.hid (HO2.out.below hb3 (by omega))
  have HB3 := Lib.hid (HB2.out.trans (hb3.mono (by omega)))
  have hs3 : w3.heap.size = X + 1 := by rw [← hw3, ← hX]; simp
  rw [hw3, hX]
  clear hw3 hb3 HB1 HO1 HB2 HO2 HR2 HW0 H0 HA HFW
  go_cut [9, 10] from 33 to 42 (fun s9 s10 wx => LookLies w3.heap.size w3.drew l2 z s9 s10 wx)
  case first =>
    rename_i J K' hJ hK'
    have HKF := Lib.hid hK'
    clear hK'
    obtain ⟨B0, hB0e⟩ : ∃ B0, w3.heap.size = B0 := ⟨_, rfl⟩
    have hB0 : W.heap.size ≤ B0 := by omega
    refine (wpIn_wide (n := 10)).1 ?_
    refine whichever_region (OpC W.heap.size k p d a n A m c) [] hmx ?_
    have HBW : Hid (Below W.heap.size W w3.drew) := HB3.out.drew
    have hbr : Below B0 w3.drew w3.drew := Below.refl _ _
    have hbs : B0 ≤ w3.drew.heap.size := by rw [← hB0e]; exact Nat.le_refl _
    have HS : Hid (∀ w, Below B0 w3.drew w → OpC W.heap.size k p d a n A m c w) := fun w hw => by
      have h1 : CellsAt w3.drew W.heap.size 6 (cellsOp k p d a n A m c) := HO3.out
      exact h1.below (m := B0) hw (by omega)
    have HBwr0 := Lib.hid hbr
    clear hbr
    generalize w3.drew = wr at *
    have HBwr : Hid (Below B0 wr wr) := HBwr0
    refine whichever_take 0 (.agg #[.int .i64 k, .string p, .string d, .int .i64 a, .int .i64 n, .slice A m c]) [] rfl (by kernel_rfl) (fun _ _ _ h => h) (HS.out _ HBwr.out) (by rfl) (fun w hw => ?_) ?_
    · have e0 := hw.1 0 (by omega)
      have e1 := hw.1 1 (by omega)
      have e2 := hw.1 2 (by omega)
      have e3 := hw.1 3 (by omega)
      have e4 := hw.1 4 (by omega)
      have e5 := hw.1 5 (by omega)
      simp only [cellsOp] at e0 e1 e2 e3 e4 e5
      clear hw
      constructor <;> go_simp
    refine whichever_take 2 (.slice F nf cf) [] rfl (by kernel_rfl) (fun _ _ _ h => h) (HS.out _ HBwr.out) (by rfl) (fun w hw => ?_) ?_
    · constructor <;> go_simp
    refine whichever_take 4 (.slice G nm cm) [] rfl (by kernel_rfl) (fun _ _ _ h => h) (HS.out _ HBwr.out) (by rfl) (fun w hw => ?_) ?_
    · constructor <;> go_simp
    refine whichever_both 1 10 rfl rfl (by kernel_rfl) (by rfl) (by rfl) ?_ ?_
    ·
      go_simp
      obtain ⟨x1, hnw⟩ : ∃ x, wr.alloc (.cells #[] 24) = x := ⟨_, rfl⟩
      have hbn : Below wr.heap.size wr x1 := by rw [← hnw]; exact (Below.refl _ _).alloc (Nat.le_refl _) _
      have HOx1 : Hid (x1.ownsRow B0 24 1 (.slice (some ⟨wr.heap.size, 0, none⟩) 0 0) 0 []) := by rw [Hid, ← hnw]; exact ownsRow_empty wr B0 24 1 (Nat.le_trans hbs HBwr.out.size)
      rw [hnw]
      clear hnw
      have HBx1 : Hid (Below B0 wr x1) := HBwr.out.trans (hbn.mono (Nat.le_trans hbs HBwr.out.size))
      clear hbn
      refine ⟨HS.out _ (HBx1.out), ?_⟩
      refine whichever_both 3 10 rfl rfl (by kernel_rfl) (by rfl) (by rfl) ?_ ?_
      ·
        obtain ⟨sv3, x2, hrn, hon, hgn⟩ := run_append_row (P := Tryz.prog) x1 23 23 B0 24 i0 (.int .u64 0) 8 Tryz.underlyingU64s hi hz0 hz1 hz2 rfl _ 0 [] HOx1.out F nf cf (fed.map encW) HFL.out (HRF.out.below (HBW.out.trans (HBx1.out.mono hB0))) (H1.out fed) (by unfold maxLen; omega) (by omega) (Nat.le_trans hbs HBx1.out.size)
        refine wpIn_append_known (.tmp 35) (.tmp 36) 23 23 (by rfl) _ (.slice F nf cf) sv3 x2 (by rfl) (by rfl) hrn ?_
        try simp only [Act.put, List.getElem_toArray, List.getElem_cons_zero, List.getElem_cons_succ, List.setIfInBounds_toArray, List.set_cons_zero, List.set_cons_succ]
        clear hrn
        have HBx2 : Hid (Below B0 wr x2) := HBx1.out.grown hgn (Nat.le_trans hbs HBx1.out.size) (fun r e => (HOx1.out.lt r e).1)
        have HOx2 : Hid (x2.ownsRow B0 24 1 sv3 nf (fed.map encW)) := by rw [Hid]; simpa using hon
        clear hon hgn
        refine ⟨fun _ => HS.out _ (HBx2.out), ?_⟩
        refine whichever_both 5 10 rfl rfl (by kernel_rfl) (by rfl) (by rfl) ?_ ?_
        ·
          obtain ⟨sv5, x3, hrn, hon, hgn⟩ := run_append_row (P := Tryz.prog) x2 23 23 B0 24 i0 (.int .u64 0) 8 Tryz.underlyingU64s hi hz0 hz1 hz2 rfl _ nf (fed.map encW) HOx2.out G nm cm (more.map encW) HML.out (HRG.out.below (HBW.out.trans (HBx2.out.mono hB0))) (H1.out more) (by unfold maxLen; omega) (by omega) (Nat.le_trans hbs HBx2.out.size)
          refine wpIn_append_known (.tmp 37) (.tmp 38) 23 23 (by rfl) _ (.slice G nm cm) sv5 x3 (by rfl) (by rfl) hrn ?_
          try simp only [Act.put, List.getElem_toArray, List.getElem_cons_zero, List.getElem_cons_succ, List.setIfInBounds_toArray, List.set_cons_zero, List.set_cons_succ]
          clear hrn
          have HBx3 : Hid (Below B0 wr x3) := HBx2.out.grown hgn (Nat.le_trans hbs HBx2.out.size) (fun r e => (HOx2.out.lt r e).1)
          have HOx3 : Hid (x3.ownsRow B0 24 1 sv5 (nf + nm) ((fed ++ more).map encW)) := by rw [Hid, List.map_append]; exact hon
          clear hon hgn
          refine ⟨fun _ => HS.out _ (HBx3.out), ?_⟩
          refine whichever_both 6 10 rfl rfl (by kernel_rfl) (by rfl) (by rfl) ?_ ?_
          ·
            obtain ⟨SA, sc, hsv, hsc, hscm⟩ := owns_slice HOx3.out
            subst hsv
            have hcall := HB.out SA sc x3 (HBW.out.trans (HBx3.out.mono hB0)) (row_of_own HOx3.out)
            have HC := Lib.hid hcall
            clear hcall
            go_simp
            refine ⟨trivial, callsIn_wide.2 (HC.out.mono ?_)⟩
            rintro e x4 ⟨⟨NB, mn, mc, BB, cn, cc, rfl, hrowB⟩, hbn⟩
            unfold lookV
            dsimp only
            have HRx4 : Hid (RowsAt x3.heap.size x4 l2.res NB mn mc BB cn cc) := hrowB
            have HRBx4 : Hid (B0 ≤ x3.heap.size) := Nat.le_trans hbs HBx3.out.size
            clear hrowB HC
            have HBx4 : Hid (Below B0 wr x4) := HBx3.out.trans (hbn.mono (Nat.le_trans hbs HBx3.out.size))
            clear hbn
            refine ⟨HS.out _ (HBx4.out), ?_⟩
            refine whichever_take 7 (.tuple #[lookV l2 NB mn mc BB cn cc, .int .i64 z]) [] rfl (by kernel_rfl) (fun _ _ _ h => h) (HS.out _ HBx4.out) (by rfl) (fun w hw => ?_) ?_
            · unfold lookV; constructor <;> go_simp
            refine whichever_take 8 (lookV l2 NB mn mc BB cn cc) [] rfl (by kernel_rfl) (fun _ _ _ h => h) (HS.out _ HBx4.out) (by rfl) (fun w hw => ?_) ?_
            · unfold lookV; constructor <;> go_simp
            refine whichever_take 9 (.int .i64 z) [] rfl (by kernel_rfl) (fun _ _ _ h => h) (HS.out _ HBx4.out) (by rfl) (fun w hw => ?_) ?_
            · unfold lookV; constructor <;> go_simp
            refine whichever_next 10 rfl (by kernel_rfl) (by rfl) ?_
            go_simp
            obtain ⟨x5, hnw⟩ : ∃ x, x4.alloc (.cells #[.bool false, .int .i64 0, .int .i64 0, .int .i64 0, .int .i64 0, .int .i64 0, .int .i64 0, .slice none 0 0, .slice none 0 0] 35) = x := ⟨_, rfl⟩
            have hbn : Below x4.heap.size x4 x5 := by rw [← hnw]; exact (Below.refl _ _).alloc (Nat.le_refl _) _
            obtain ⟨Y, hY⟩ : ∃ Y, x4.heap.size = Y := ⟨_, rfl⟩
            have hYB : B0 ≤ Y := by rw [← hY]; exact (Nat.le_trans hbs HBx4.out.size)
            have HYx5 : Hid (x5.heap[Y]? = some (.cells #[.bool false, .int .i64 0, .int .i64 0, .int .i64 0, .int .i64 0, .int .i64 0, .int .i64 0, .slice none 0 0, .slice none 0 0] 35)) := by rw [Hid, ← hnw, ← hY]; exact heap_alloc_new x4 _
            have HYlx5 : Hid (Y < x5.heap.size) := by rw [Hid, ← hnw, ← hY]; simp
            rw [hnw, hY]
            clear hnw
            have HBx5 : Hid (Below B0 wr x5) := HBx4.out.trans (hbn.mono (Nat.le_trans hbs HBx4.out.size))
            have HBN := Lib.hid hbn
            have HYe : Hid (x4.heap.size ≤ Y) := Nat.le_of_eq hY
            clear hY
            clear hbn
            refine ⟨HS.out _ (HBx5.out), ?_⟩
            have hcy := cells_block HYx5.out
            have HCY := Lib.hid hcy
            clear hcy
            have lf0 : x5.cell? ⟨Y, 0, none⟩ = some (.bool false) := HCY.out.1 0 (by omega)
            have lf1 : x5.cell? ⟨Y, 1, none⟩ = some (.int .i64 0) := HCY.out.1 1 (by omega)
            have lf2 : x5.cell? ⟨Y, 2, none⟩ = some (.int .i64 0) := HCY.out.1 2 (by omega)
            have lf3 : x5.cell? ⟨Y, 3, none⟩ = some (.int .i64 0) := HCY.out.1 3 (by omega)
            have lf4 : x5.cell? ⟨Y, 4, none⟩ = some (.int .i64 0) := HCY.out.1 4 (by omega)
            have lf5 : x5.cell? ⟨Y, 5, none⟩ = some (.int .i64 0) := HCY.out.1 5 (by omega)
            have lf6 : x5.cell? ⟨Y, 6, none⟩ = some (.int .i64 0) := HCY.out.1 6 (by omega)
            have lf7 : x5.cell? ⟨Y, 7, none⟩ = some (.slice none 0 0) := HCY.out.1 7 (by omega)
            have lf8 : x5.cell? ⟨Y, 8, none⟩ = some (.slice none 0 0) := HCY.out.1 8 (by omega)
            have hfr : ∀ i, x5.frozen? ⟨Y, i, none⟩ = false := HCY.out.2
            unfold lookV
            refine whichever_next 11 rfl (by kernel_rfl) (by rfl) ?_
            go_simp
            have HE : Hid (CellsAt (putTo x5 Y (cellsLk l2 NB mn mc BB cn cc) 9) Y 9 (cellsLk l2 NB mn mc BB cn cc)) := putTo_all HCY.out
            have HBE : Hid (Below B0 wr (putTo x5 Y (cellsLk l2 NB mn mc BB cn cc) 9)) := below_putTo HBx5.out hYB 9
            have HRE : Hid (RowsAt B0 (putTo x5 Y (cellsLk l2 NB mn mc BB cn cc) 9) l2.res NB mn mc BB cn cc) := HRx4.out.below (below_putTo HBN.out HYe.out 9) HRBx4.out
            refine ⟨HS.out _ HBE.out, ?_⟩
            refine whichever_next 12 rfl (by kernel_rfl) (by rfl) ?_
            go_simp
            refine ⟨HS.out _ HBE.out, ?_⟩
            refine whichever_end (by kernel_rfl) ?_
            refine HKF.out _ _ ?_
            go_meet
            rw [hB0e]
            exact ⟨Y, NB, mn, mc, BB, cn, cc, rfl, rfl, HE.out, HRE.out, hYB, HBE.out⟩
          ·
            go_simp
            obtain ⟨x6, hnw⟩ : ∃ x, x3.alloc (.cells #[.bool false, .int .i64 0, .int .i64 0, .int .i64 0, .int .i64 0, .int .i64 0, .int .i64 0, .slice none 0 0, .slice none 0 0] 35) = x := ⟨_, rfl⟩
            have hbn : Below x3.heap.size x3 x6 := by rw [← hnw]; exact (Below.refl _ _).alloc (Nat.le_refl _) _
            obtain ⟨Y, hY⟩ : ∃ Y, x3.heap.size = Y := ⟨_, rfl⟩
            have hYB : B0 ≤ Y := by rw [← hY]; exact (Nat.le_trans hbs HBx3.out.size)
            have HYx6 : Hid (x6.heap[Y]? = some (.cells #[.bool false, .int .i64 0, .int .i64 0, .int .i64 0, .int .i64 0, .int .i64 0, .int .i64 0, .slice none 0 0, .slice none 0 0] 35)) := by rw [Hid, ← hnw, ← hY]; exact heap_alloc_new x3 _
            have HYlx6 : Hid (Y < x6.heap.size) := by rw [Hid, ← hnw, ← hY]; simp
            rw [hnw, hY]
            clear hnw
            have HBx6 : Hid (Below B0 wr x6) := HBx3.out.trans (hbn.mono (Nat.le_trans hbs HBx3.out.size))
            have HOx6 : Hid (x6.ownsRow B0 24 1 sv5 (nf + nm) ((fed ++ more).map encW)) := own_keep HOx3.out hbn
            clear hY
            clear hbn
            refine ⟨HS.out _ (HBx6.out), ?_⟩
            refine whichever_next 6 rfl (by kernel_rfl) (by rfl) ?_
            obtain ⟨SA, sc, hsv, hsc, hscm⟩ := owns_slice HOx6.out
            subst hsv
            have hcall := HB.out SA sc x6 (HBW.out.trans (HBx6.out.mono hB0)) (row_of_own HOx6.out)
            have HC := Lib.hid hcall
            clear hcall
            go_simp
            refine ⟨trivial, callsIn_wide.2 (HC.out.mono ?_)⟩
            rintro e x7 ⟨⟨NB, mn, mc, BB, cn, cc, rfl, hrowB⟩, hbn⟩
            unfold lookV
            dsimp only
            have HRx7 : Hid (RowsAt x6.heap.size x7 l2.res NB mn mc BB cn cc) := hrowB
            have HRBx7 : Hid (B0 ≤ x6.heap.size) := Nat.le_trans hbs HBx6.out.size
            clear hrowB HC
            have HBx7 : Hid (Below B0 wr x7) := HBx6.out.trans (hbn.mono (Nat.le_trans hbs HBx6.out.size))
            have HYx7 : Hid (x7.heap[Y]? = some (.cells #[.bool false, .int .i64 0, .int .i64 0, .int .i64 0, .int .i64 0, .int .i64 0, .int .i64 0, .slice none 0 0, .slice none 0 0] 35)) := (hbn.block Y HYlx6.out).trans HYx6.out
            have HYlx7 : Hid (Y < x7.heap.size) := Nat.lt_of_lt_of_le HYlx6.out hbn.size
            clear hbn
            refine ⟨HS.out _ (HBx7.out), ?_⟩
            refine whichever_take 7 (.tuple #[lookV l2 NB mn mc BB cn cc, .int .i64 z]) [] rfl (by kernel_rfl) (fun _ _ _ h => h) (HS.out _ HBx7.out) (by rfl) (fun w hw => ?_) ?_
            · unfold lookV; constructor <;> go_simp
            refine whichever_take 8 (lookV l2 NB mn mc BB cn cc) [] rfl (by kernel_rfl) (fun _ _ _ h => h) (HS.out _ HBx7.out) (by rfl) (fun w hw => ?_) ?_
            · unfold lookV; constructor <;> go_simp
            refine whichever_take 9 (.int .i64 z) [] rfl (by kernel_rfl) (fun _ _ _ h => h) (HS.out _ HBx7.out) (by rfl) (fun w hw => ?_) ?_
            · unfold lookV; constructor <;> go_simp
            have hcy := cells_block HYx7.out
            have HCY := Lib.hid hcy
            clear hcy
            have lf0 : x7.cell? ⟨Y, 0, none⟩ = some (.bool false) := HCY.out.1 0 (by omega)
            have lf1 : x7.cell? ⟨Y, 1, none⟩ = some (.int .i64 0) := HCY.out.1 1 (by omega)
            have lf2 : x7.cell? ⟨Y, 2, none⟩ = some (.int .i64 0) := HCY.out.1 2 (by omega)
            have lf3 : x7.cell? ⟨Y, 3, none⟩ = some (.int .i64 0) := HCY.out.1 3 (by omega)
            have lf4 : x7.cell? ⟨Y, 4, none⟩ = some (.int .i64 0) := HCY.out.1 4 (by omega)
            have lf5 : x7.cell? ⟨Y, 5, none⟩ = some (.int .i64 0) := HCY.out.1 5 (by omega)
            have lf6 : x7.cell? ⟨Y, 6, none⟩ = some (.int .i64 0) := HCY.out.1 6 (by omega)
            have lf7 : x7.cell? ⟨Y, 7, none⟩ = some (.slice none 0 0) := HCY.out.1 7 (by omega)
            have lf8 : x7.cell? ⟨Y, 8, none⟩ = some (.slice none 0 0) := HCY.out.1 8 (by omega)
            have hfr : ∀ i, x7.frozen? ⟨Y, i, none⟩ = false := HCY.out.2
            unfold lookV
            refine whichever_next 11 rfl (by kernel_rfl) (by rfl) ?_
            go_simp
            have HE : Hid (CellsAt (putTo x7 Y (cellsLk l2 NB mn mc BB cn cc) 9) Y 9 (cellsLk l2 NB mn mc BB cn cc)) := putTo_all HCY.out
            have HBE : Hid (Below B0 wr (putTo x7 Y (cellsLk l2 NB mn mc BB cn cc) 9)) := below_putTo HBx7.out hYB 9
            have HRE : Hid (RowsAt B0 (putTo x7 Y (cellsLk l2 NB mn mc BB cn cc) 9) l2.res NB mn mc BB cn cc) := (HRx7.out.putTo HYlx6.out 9).below (Below.refl _ _) HRBx7.out
            refine ⟨HS.out _ HBE.out, ?_⟩
            refine whichever_next 12 rfl (by kernel_rfl) (by rfl) ?_
            go_simp
            refine ⟨HS.out _ HBE.out, ?_⟩
            refine whichever_end (by kernel_rfl) ?_
            refine HKF.out _ _ ?_
            go_meet
            rw [hB0e]
            exact ⟨Y, NB, mn, mc, BB, cn, cc, rfl, rfl, HE.out, HRE.out, hYB, HBE.out⟩
        ·
          go_simp
          obtain ⟨x8, hnw⟩ : ∃ x, x2.alloc (.cells #[.bool false, .int .i64 0, .int .i64 0, .int .i64 0, .int .i64 0, .int .i64 0, .int .i64 0, .slice none 0 0, .slice none 0 0] 35) = x := ⟨_, rfl⟩
          have hbn : Below x2.heap.size x2 x8 := by rw [← hnw]; exact (Below.refl _ _).alloc (Nat.le_refl _) _
          obtain ⟨Y, hY⟩ : ∃ Y, x2.heap.size = Y := ⟨_, rfl⟩
          have hYB : B0 ≤ Y := by rw [← hY]; exact (Nat.le_trans hbs HBx2.out.size)
          have HYx8 : Hid (x8.heap[Y]? = some (.cells #[.bool false, .int .i64 0, .int .i64 0, .int .i64 0, .int .i64 0, .int .i64 0, .int .i64 0, .slice none 0 0, .slice none 0 0] 35)) := by rw [Hid, ← hnw, ← hY]; exact heap_alloc_new x2 _
          have HYlx8 : Hid (Y < x8.heap.size) := by rw [Hid, ← hnw, ← hY]; simp
          rw [hnw, hY]
          clear hnw
          have HBx8 : Hid (Below B0 wr x8) := HBx2.out.trans (hbn.mono (Nat.le_trans hbs HBx2.out.size))
          have HOx8 : Hid (x8.ownsRow B0 24 1 sv3 nf (fed.map encW)) := own_keep HOx2.out hbn
          clear hY
          clear hbn
          refine ⟨HS.out _ (HBx8.out), ?_⟩
          refine whichever_next 5 rfl (by kernel_rfl) (by rfl) ?_
          obtain ⟨sv5, x9, hrn, hon, hgn⟩ := run_append_row (P := Tryz.prog) x8 23 23 B0 24 i0 (.int .u64 0) 8 Tryz.underlyingU64s hi hz0 hz1 hz2 rfl _ nf (fed.map encW) HOx8.out G nm cm (more.map encW) HML.out (HRG.out.below (HBW.out.trans (HBx8.out.mono hB0))) (H1.out more) (by unfold maxLen; omega) (by omega) (Nat.le_trans hbs HBx8.out.size)
          refine wpIn_append_known (.tmp 37) (.tmp 38) 23 23 (by rfl) _ (.slice G nm cm) sv5 x9 (by rfl) (by rfl) hrn ?_
          try simp only [Act.put, List.getElem_toArray, List.getElem_cons_zero, List.getElem_cons_succ, List.setIfInBounds_toArray, List.set_cons_zero, List.set_cons_succ]
          clear hrn
          have HBx9 : Hid (Below B0 wr x9) := HBx8.out.grown hgn (Nat.le_trans hbs HBx8.out.size) (fun r e => (HOx8.out.lt r e).1)
          have HOx9 : Hid (x9.ownsRow B0 24 1 sv5 (nf + nm) ((fed ++ more).map encW)) := by rw [Hid, List.map_append]; exact hon
          have HYx9 : Hid (x9.heap[Y]? = some (.cells #[.bool false, .int .i64 0, .int .i64 0, .int .i64 0, .int .i64 0, .int .i64 0, .int .i64 0, .slice none 0 0, .slice none 0 0] 35)) := (hgn.block Y HYlx8.out (fun e => off_row HOx8.out HYx8.out (by decide) e.symm)).trans HYx8.out
          have HYlx9 : Hid (Y < x9.heap.size) := Nat.lt_of_lt_of_le HYlx8.out hgn.size
          clear hon hgn
          refine ⟨fun _ => HS.out _ (HBx9.out), ?_⟩
          refine whichever_next 6 rfl (by kernel_rfl) (by rfl) ?_
          obtain ⟨SA, sc, hsv, hsc, hscm⟩ := owns_slice HOx9.out
          subst hsv
          have hcall := HB.out SA sc x9 (HBW.out.trans (HBx9.out.mono hB0)) (row_of_own HOx9.out)
          have HC := Lib.hid hcall
          clear hcall
          go_simp
          refine ⟨trivial, callsIn_wide.2 (HC.out.mono ?_)⟩
          rintro e x10 ⟨⟨NB, mn, mc, BB, cn, cc, rfl, hrowB⟩, hbn⟩
          unfold lookV
          dsimp only
          have HRx10 : Hid (RowsAt x9.heap.size x10 l2.res NB mn mc BB cn cc) := hrowB
          have HRBx10 : Hid (B0 ≤ x9.heap.size) := Nat.le_trans hbs HBx9.out.size
          clear hrowB HC
          have HBx10 : Hid (Below B0 wr x10) := HBx9.out.trans (hbn.mono (Nat.le_trans hbs HBx9.out.size))
          have HYx10 : Hid (x10.heap[Y]? = some (.cells #[.bool false, .int .i64 0, .int .i64 0, .int .i64 0, .int .i64 0, .int .i64 0, .int .i64 0, .slice none 0 0, .slice none 0 0] 35)) := (hbn.block Y HYlx9.out).trans HYx9.out
          have HYlx10 : Hid (Y < x10.heap.size) := Nat.lt_of_lt_of_le HYlx9.out hbn.size
          clear hbn
          refine ⟨HS.out _ (HBx10.out), ?_⟩
          refine whichever_take 7 (.tuple #[lookV l2 NB mn mc BB cn cc, .int .i64 z]) [] rfl (by kernel_rfl) (fun _ _ _ h => h) (HS.out _ HBx10.out) (by rfl) (fun w hw => ?_) ?_
          · unfold lookV; constructor <;> go_simp
          refine whichever_take 8 (lookV l2 NB mn mc BB cn cc) [] rfl (by kernel_rfl) (fun _ _ _ h => h) (HS.out _ HBx10.out) (by rfl) (fun w hw => ?_) ?_
          · unfold lookV; constructor <;> go_simp
          refine whichever_take 9 (.int .i64 z) [] rfl (by kernel_rfl) (fun _ _ _ h => h) (HS.out _ HBx10.out) (by rfl) (fun w hw => ?_) ?_
          · unfold lookV; constructor <;> go_simp
          have hcy := cells_block HYx10.out
          have HCY := Lib.hid hcy
          clear hcy
          have lf0 : x10.cell? ⟨Y, 0, none⟩ = some (.bool false) := HCY.out.1 0 (by omega)
          have lf1 : x10.cell? ⟨Y, 1, none⟩ = some (.int .i64 0) := HCY.out.1 1 (by omega)
          have lf2 : x10.cell? ⟨Y, 2, none⟩ = some (.int .i64 0) := HCY.out.1 2 (by omega)
          have lf3 : x10.cell? ⟨Y, 3, none⟩ = some (.int .i64 0) := HCY.out.1 3 (by omega)
          have lf4 : x10.cell? ⟨Y, 4, none⟩ = some (.int .i64 0) := HCY.out.1 4 (by omega)
          have lf5 : x10.cell? ⟨Y, 5, none⟩ = some (.int .i64 0) := HCY.out.1 5 (by omega)
          have lf6 : x10.cell? ⟨Y, 6, none⟩ = some (.int .i64 0) := HCY.out.1 6 (by omega)
          have lf7 : x10.cell? ⟨Y, 7, none⟩ = some (.slice none 0 0) := HCY.out.1 7 (by omega)
          have lf8 : x10.cell? ⟨Y, 8, none⟩ = some (.slice none 0 0) := HCY.out.1 8 (by omega)
          have hfr : ∀ i, x10.frozen? ⟨Y, i, none⟩ = false := HCY.out.2
          unfold lookV
          refine whichever_next 11 rfl (by kernel_rfl) (by rfl) ?_
          go_simp
          have HE : Hid (CellsAt (putTo x10 Y (cellsLk l2 NB mn mc BB cn cc) 9) Y 9 (cellsLk l2 NB mn mc BB cn cc)) := putTo_all HCY.out
          have HBE : Hid (Below B0 wr (putTo x10 Y (cellsLk l2 NB mn mc BB cn cc) 9)) := below_putTo HBx10.out hYB 9
          have HRE : Hid (RowsAt B0 (putTo x10 Y (cellsLk l2 NB mn mc BB cn cc) 9) l2.res NB mn mc BB cn cc) := (HRx10.out.putTo HYlx9.out 9).below (Below.refl _ _) HRBx10.out
          refine ⟨HS.out _ HBE.out, ?_⟩
          refine whichever_next 12 rfl (by kernel_rfl) (by rfl) ?_
          go_simp
          refine ⟨HS.out _ HBE.out, ?_⟩
          refine whichever_end (by kernel_rfl) ?_
          refine HKF.out _ _ ?_
          go_meet
          rw [hB0e]
          exact ⟨Y, NB, mn, mc, BB, cn, cc, rfl, rfl, HE.out, HRE.out, hYB, HBE.out⟩
      ·
        go_simp
        obtain ⟨x11, hnw⟩ : ∃ x, x1.alloc (.cells #[.bool false, .int .i64 0, .int .i64 0, .int .i64 0, .int .i64 0, .int .i64 0, .int .i64 0, .slice none 0 0, .slice none 0 0] 35) = x := ⟨_, rfl⟩
        have hbn : Below x1.heap.size x1 x11 := by rw [← hnw]; exact (Below.refl _ _).alloc (Nat.le_refl _) _
        obtain ⟨Y, hY⟩ : ∃ Y, x1.heap.size = Y := ⟨_, rfl⟩
        have hYB : B0 ≤ Y := by rw [← hY]; exact (Nat.le_trans hbs HBx1.out.size)
        have HYx11 : Hid (x11.heap[Y]? = some (.cells #[.bool false, .int .i64 0, .int .i64 0, .int .i64 0, .int .i64 0, .int .i64 0, .int .i64 0, .slice none 0 0, .slice none 0 0] 35)) := by rw [Hid, ← hnw, ← hY]; exact heap_alloc_new x1 _
        have HYlx11 : Hid (Y < x11.heap.size) := by rw [Hid, ← hnw, ← hY]; simp
        rw [hnw, hY]
        clear hnw
        have HBx11 : Hid (Below B0 wr x11) := HBx1.out.trans (hbn.mono (Nat.le_trans hbs HBx1.out.size))
        have HOx11 : Hid (x11.ownsRow B0 24 1 (.slice (some ⟨wr.heap.size, 0, none⟩) 0 0) 0 []) := own_keep HOx1.out hbn
        clear hY
        clear hbn
        refine ⟨HS.out _ (HBx11.out), ?_⟩
        refine whichever_next 3 rfl (by kernel_rfl) (by rfl) ?_
        obtain ⟨sv3, x12, hrn, hon, hgn⟩ := run_append_row (P := Tryz.prog) x11 23 23 B0 24 i0 (.int .u64 0) 8 Tryz.underlyingU64s hi hz0 hz1 hz2 rfl _ 0 [] HOx11.out F nf cf (fed.map encW) HFL.out (HRF.out.below (HBW.out.trans (HBx11.out.mono hB0))) (H1.out fed) (by unfold maxLen; omega) (by omega) (Nat.le_trans hbs HBx11.out.size)
        refine wpIn_append_known (.tmp 35) (.tmp 36) 23 23 (by rfl) _ (.slice F nf cf) sv3 x12 (by rfl) (by rfl) hrn ?_
        try simp only [Act.put, List.getElem_toArray, List.getElem_cons_zero, List.getElem_cons_succ, List.setIfInBounds_toArray, List.set_cons_zero, List.set_cons_succ]
        clear hrn
        have HBx12 : Hid (Below B0 wr x12) := HBx11.out.grown hgn (Nat.le_trans hbs HBx11.out.size) (fun r e => (HOx11.out.lt r e).1)
        have HOx12 : Hid (x12.ownsRow B0 24 1 sv3 nf (fed.map encW)) := by rw [Hid]; simpa using hon
        have HYx12 : Hid (x12.heap[Y]? = some (.cells #[.bool false, .int .i64 0, .int .i64 0, .int .i64 0, .int .i64 0, .int .i64 0, .int .i64 0, .slice none 0 0, .slice none 0 0] 35)) := (hgn.block Y HYlx11.out (fun e => off_row HOx11.out HYx11.out (by decide) e.symm)).trans HYx11.out
        have HYlx12 : Hid (Y < x12.heap.size) := Nat.lt_of_lt_of_le HYlx11.out hgn.size
        clear hon hgn
        refine ⟨fun _ => HS.out _ (HBx12.out), ?_⟩
        refine whichever_next 5 rfl (by kernel_rfl) (by rfl) ?_
        obtain ⟨sv5, x13, hrn, hon, hgn⟩ := run_append_row (P := Tryz.prog) x12 23 23 B0 24 i0 (.int .u64 0) 8 Tryz.underlyingU64s hi hz0 hz1 hz2 rfl _ nf (fed.map encW) HOx12.out G nm cm (more.map encW) HML.out (HRG.out.below (HBW.out.trans (HBx12.out.mono hB0))) (H1.out more) (by unfold maxLen; omega) (by omega) (Nat.le_trans hbs HBx12.out.size)
        refine wpIn_append_known (.tmp 37) (.tmp 38) 23 23 (by rfl) _ (.slice G nm cm) sv5 x13 (by rfl) (by rfl) hrn ?_
        try simp only [Act.put, List.getElem_toArray, List.getElem_cons_zero, List.getElem_cons_succ, List.setIfInBounds_toArray, List.set_cons_zero, List.set_cons_succ]
        clear hrn
        have HBx13 : Hid (Below B0 wr x13) := HBx12.out.grown hgn (Nat.le_trans hbs HBx12.out.size) (fun r e => (HOx12.out.lt r e).1)
        have HOx13 : Hid (x13.ownsRow B0 24 1 sv5 (nf + nm) ((fed ++ more).map encW)) := by rw [Hid, List.map_append]; exact hon
        have HYx13 : Hid (x13.heap[Y]? = some (.cells #[.bool false, .int .i64 0, .int .i64 0, .int .i64 0, .int .i64 0, .int .i64 0, .int .i64 0, .slice none 0 0, .slice none 0 0] 35)) := (hgn.block Y HYlx12.out (fun e => off_row HOx12.out HYx12.out (by decide) e.symm)).trans HYx12.out
        have HYlx13 : Hid (Y < x13.heap.size) := Nat.lt_of_lt_of_le HYlx12.out hgn.size
        clear hon hgn
        refine ⟨fun _ => HS.out _ (HBx13.out), ?_⟩
        refine whichever_next 6 rfl (by kernel_rfl) (by rfl) ?_
        obtain ⟨SA, sc, hsv, hsc, hscm⟩ := owns_slice HOx13.out
        subst hsv
        have hcall := HB.out SA sc x13 (HBW.out.trans (HBx13.out.mono hB0)) (row_of_own HOx13.out)
        have HC := Lib.hid hcall
        clear hcall
        go_simp
        refine ⟨trivial, callsIn_wide.2 (HC.out.mono ?_)⟩
        rintro e x14 ⟨⟨NB, mn, mc, BB, cn, cc, rfl, hrowB⟩, hbn⟩
        unfold lookV
        dsimp only
        have HRx14 : Hid (RowsAt x13.heap.size x14 l2.res NB mn mc BB cn cc) := hrowB
        have HRBx14 : Hid (B0 ≤ x13.heap.size) := Nat.le_trans hbs HBx13.out.size
        clear hrowB HC
        have HBx14 : Hid (Below B0 wr x14) := HBx13.out.trans (hbn.mono (Nat.le_trans hbs HBx13.out.size))
        have HYx14 : Hid (x14.heap[Y]? = some (.cells #[.bool false, .int .i64 0, .int .i64 0, .int .i64 0, .int .i64 0, .int .i64 0, .int .i64 0, .slice none 0 0, .slice none 0 0] 35)) := (hbn.block Y HYlx13.out).trans HYx13.out
        have HYlx14 : Hid (Y < x14.heap.size) := Nat.lt_of_lt_of_le HYlx13.out hbn.size
        clear hbn
        refine ⟨HS.out _ (HBx14.out), ?_⟩
        refine whichever_take 7 (.tuple #[lookV l2 NB mn mc BB cn cc, .int .i64 z]) [] rfl (by kernel_rfl) (fun _ _ _ h => h) (HS.out _ HBx14.out) (by rfl) (fun w hw => ?_) ?_
        · unfold lookV; constructor <;> go_simp
        refine whichever_take 8 (lookV l2 NB mn mc BB cn cc) [] rfl (by kernel_rfl) (fun _ _ _ h => h) (HS.out _ HBx14.out) (by rfl) (fun w hw => ?_) ?_
        · unfold lookV; constructor <;> go_simp
        refine whichever_take 9 (.int .i64 z) [] rfl (by kernel_rfl) (fun _ _ _ h => h) (HS.out _ HBx14.out) (by rfl) (fun w hw => ?_) ?_
        · unfold lookV; constructor <;> go_simp
        have hcy := cells_block HYx14.out
        have HCY := Lib.hid hcy
        clear hcy
        have lf0 : x14.cell? ⟨Y, 0, none⟩ = some (.bool false) := HCY.out.1 0 (by omega)
        have lf1 : x14.cell? ⟨Y, 1, none⟩ = some (.int .i64 0) := HCY.out.1 1 (by omega)
        have lf2 : x14.cell? ⟨Y, 2, none⟩ = some (.int .i64 0) := HCY.out.1 2 (by omega)
        have lf3 : x14.cell? ⟨Y, 3, none⟩ = some (.int .i64 0) := HCY.out.1 3 (by omega)
        have lf4 : x14.cell? ⟨Y, 4, none⟩ = some (.int .i64 0) := HCY.out.1 4 (by omega)
        have lf5 : x14.cell? ⟨Y, 5, none⟩ = some (.int .i64 0) := HCY.out.1 5 (by omega)
        have lf6 : x14.cell? ⟨Y, 6, none⟩ = some (.int .i64 0) := HCY.out.1 6 (by omega)
        have lf7 : x14.cell? ⟨Y, 7, none⟩ = some (.slice none 0 0) := HCY.out.1 7 (by omega)
        have lf8 : x14.cell? ⟨Y, 8, none⟩ = some (.slice none 0 0) := HCY.out.1 8 (by omega)
        have hfr : ∀ i, x14.frozen? ⟨Y, i, none⟩ = false := HCY.out.2
        unfold lookV
        refine whichever_next 11 rfl (by kernel_rfl) (by rfl) ?_
        go_simp
        have HE : Hid (CellsAt (putTo x14 Y (cellsLk l2 NB mn mc BB cn cc) 9) Y 9 (cellsLk l2 NB mn mc BB cn cc)) := putTo_all HCY.out
        have HBE : Hid (Below B0 wr (putTo x14 Y (cellsLk l2 NB mn mc BB cn cc) 9)) := below_putTo HBx14.out hYB 9
        have HRE : Hid (RowsAt B0 (putTo x14 Y (cellsLk l2 NB mn mc BB cn cc) 9) l2.res NB mn mc BB cn cc) := (HRx14.out.putTo HYlx13.out 9).below (Below.refl _ _) HRBx14.out
        refine ⟨HS.out _ HBE.out, ?_⟩
        refine whichever_next 12 rfl (by kernel_rfl) (by rfl) ?_
        go_simp
        refine ⟨HS.out _ HBE.out, ?_⟩
        refine whichever_end (by kernel_rfl) ?_
        refine HKF.out _ _ ?_
        go_meet
        rw [hB0e]
        exact ⟨Y, NB, mn, mc, BB, cn, cc, rfl, rfl, HE.out, HRE.out, hYB, HBE.out⟩
    ·
      go_simp
      obtain ⟨x15, hnw⟩ : ∃ x, wr.alloc (.cells #[.bool false, .int .i64 0, .int .i64 0, .int .i64 0, .int .i64 0, .int .i64 0, .int .i64 0, .slice none 0 0, .slice none 0 0] 35) = x := ⟨_, rfl⟩
      have hbn : Below wr.heap.size wr x15 := by rw [← hnw]; exact (Below.refl _ _).alloc (Nat.le_refl _) _
      obtain ⟨Y, hY⟩ : ∃ Y, wr.heap.size = Y := ⟨_, rfl⟩
      have hYB : B0 ≤ Y := by rw [← hY]; exact (Nat.le_trans hbs HBwr.out.size)
      have HYx15 : Hid (x15.heap[Y]? = some (.cells #[.bool false, .int .i64 0, .int .i64 0, .int .i64 0, .int .i64 0, .int .i64 0, .int .i64 0, .slice none 0 0, .slice none 0 0] 35)) := by rw [Hid, ← hnw, ← hY]; exact heap_alloc_new wr _
      have HYlx15 : Hid (Y < x15.heap.size) := by rw [Hid, ← hnw, ← hY]; simp
      rw [hnw, hY]
      clear hnw
      have HBx15 : Hid (Below B0 wr x15) := HBwr.out.trans (hbn.mono (Nat.le_trans hbs HBwr.out.size))
      clear hY
      clear hbn
      refine ⟨HS.out _ (HBx15.out), ?_⟩
      refine whichever_next 1 rfl (by kernel_rfl) (by rfl) ?_
      go_simp
      obtain ⟨x16, hnw⟩ : ∃ x, x15.alloc (.cells #[] 24) = x := ⟨_, rfl⟩
      have hbn : Below x15.heap.size x15 x16 := by rw [← hnw]; exact (Below.refl _ _).alloc (Nat.le_refl _) _
      have HOx16 : Hid (x16.ownsRow B0 24 1 (.slice (some ⟨x15.heap.size, 0, none⟩) 0 0) 0 []) := by rw [Hid, ← hnw]; exact ownsRow_empty x15 B0 24 1 (Nat.le_trans hbs HBx15.out.size)
      rw [hnw]
      clear hnw
      have HBx16 : Hid (Below B0 wr x16) := HBx15.out.trans (hbn.mono (Nat.le_trans hbs HBx15.out.size))
      have HYx16 : Hid (x16.heap[Y]? = some (.cells #[.bool false, .int .i64 0, .int .i64 0, .int .i64 0, .int .i64 0, .int .i64 0, .int .i64 0, .slice none 0 0, .slice none 0 0] 35)) := (hbn.block Y HYlx15.out).trans HYx15.out
      have HYlx16 : Hid (Y < x16.heap.size) := Nat.lt_of_lt_of_le HYlx15.out hbn.size
      clear hbn
      refine ⟨HS.out _ (HBx16.out), ?_⟩
      refine whichever_next 3 rfl (by kernel_rfl) (by rfl) ?_
      obtain ⟨sv3, x17, hrn, hon, hgn⟩ := run_append_row (P := Tryz.prog) x16 23 23 B0 24 i0 (.int .u64 0) 8 Tryz.underlyingU64s hi hz0 hz1 hz2 rfl _ 0 [] HOx16.out F nf cf (fed.map encW) HFL.out (HRF.out.below (HBW.out.trans (HBx16.out.mono hB0))) (H1.out fed) (by unfold maxLen; omega) (by omega) (Nat.le_trans hbs HBx16.out.size)
      refine wpIn_append_known (.tmp 35) (.tmp 36) 23 23 (by rfl) _ (.slice F nf cf) sv3 x17 (by rfl) (by rfl) hrn ?_
      try simp only [Act.put, List.getElem_toArray, List.getElem_cons_zero, List.getElem_cons_succ, List.setIfInBounds_toArray, List.set_cons_zero, List.set_cons_succ]
      clear hrn
      have HBx17 : Hid (Below B0 wr x17) := HBx16.out.grown hgn (Nat.le_trans hbs HBx16.out.size) (fun r e => (HOx16.out.lt r e).1)
      have HOx17 : Hid (x17.ownsRow B0 24 1 sv3 nf (fed.map encW)) := by rw [Hid]; simpa using hon
      have HYx17 : Hid (x17.heap[Y]? = some (.cells #[.bool false, .int .i64 0, .int .i64 0, .int .i64 0, .int .i64 0, .int .i64 0, .int .i64 0, .slice none 0 0, .slice none 0 0] 35)) := (hgn.block Y HYlx16.out (fun e => off_row HOx16.out HYx16.out (by decide) e.symm)).trans HYx16.out
      have HYlx17 : Hid (Y < x17.heap.size) := Nat.lt_of_lt_of_le HYlx16.out hgn.size
      clear hon hgn
      refine ⟨fun _ => HS.out _ (HBx17.out), ?_⟩
      refine whichever_next 5 rfl (by kernel_rfl) (by rfl) ?_
      obtain ⟨sv5, x18, hrn, hon, hgn⟩ := run_append_row (P := Tryz.prog) x17 23 23 B0 24 i0 (.int .u64 0) 8 Tryz.underlyingU64s hi hz0 hz1 hz2 rfl _ nf (fed.map encW) HOx17.out G nm cm (more.map encW) HML.out (HRG.out.below (HBW.out.trans (HBx17.out.mono hB0))) (H1.out more) (by unfold maxLen; omega) (by omega) (Nat.le_trans hbs HBx17.out.size)
      refine wpIn_append_known (.tmp 37) (.tmp 38) 23 23 (by rfl) _ (.slice G nm cm) sv5 x18 (by rfl) (by rfl) hrn ?_
      try simp only [Act.put, List.getElem_toArray, List.getElem_cons_zero, List.getElem_cons_succ, List.setIfInBounds_toArray, List.set_cons_zero, List.set_cons_succ]
      clear hrn
      have HBx18 : Hid (Below B0 wr x18) := HBx17.out.grown hgn (Nat.le_trans hbs HBx17.out.size) (fun r e => (HOx17.out.lt r e).1)
      have HOx18 : Hid (x18.ownsRow B0 24 1 sv5 (nf + nm) ((fed ++ more).map encW)) := by rw [Hid, List.map_append]; exact hon
      have HYx18 : Hid (x18.heap[Y]? = some (.cells #[.bool false, .int .i64 0, .int .i64 0, .int .i64 0, .int .i64 0, .int .i64 0, .int .i64 0, .slice none 0 0, .slice none 0 0] 35)) := (hgn.block Y HYlx17.out (fun e => off_row HOx17.out HYx17.out (by decide) e.symm)).trans HYx17.out
      have HYlx18 : Hid (Y < x18.heap.size) := Nat.lt_of_lt_of_le HYlx17.out hgn.size
      clear hon hgn
      refine ⟨fun _ => HS.out _ (HBx18.out), ?_⟩
      refine whichever_next 6 rfl (by kernel_rfl) (by rfl) ?_
      obtain ⟨SA, sc, hsv, hsc, hscm⟩ := owns_slice HOx18.out
      subst hsv
      have hcall := HB.out SA sc x18 (HBW.out.trans (HBx18.out.mono hB0)) (row_of_own HOx18.out)
      have HC := Lib.hid hcall
      clear hcall
      go_simp
      refine ⟨trivial, callsIn_wide.2 (HC.out.mono ?_)⟩
      rintro e x19 ⟨⟨NB, mn, mc, BB, cn, cc, rfl, hrowB⟩, hbn⟩
      unfold lookV
      dsimp only
      have HRx19 : Hid (RowsAt x18.heap.size x19 l2.res NB mn mc BB cn cc) := hrowB
      have HRBx19 : Hid (B0 ≤ x18.heap.size) := Nat.le_trans hbs HBx18.out.size
      clear hrowB HC
      have HBx19 : Hid (Below B0 wr x19) := HBx18.out.trans (hbn.mono (Nat.le_trans hbs HBx18.out.size))
      have HYx19 : Hid (x19.heap[Y]? = some (.cells #[.bool false, .int .i64 0, .int .i64 0, .int .i64 0, .int .i64 0, .int .i64 0, .int .i64 0, .slice none 0 0, .slice none 0 0] 35)) := (hbn.block Y HYlx18.out).trans HYx18.out
      have HYlx19 : Hid (Y < x19.heap.size) := Nat.lt_of_lt_of_le HYlx18.out hbn.size
      clear hbn
      refine ⟨HS.out _ (HBx19.out), ?_⟩
      refine whichever_take 7 (.tuple #[lookV l2 NB mn mc BB cn cc, .int .i64 z]) [] rfl (by kernel_rfl) (fun _ _ _ h => h) (HS.out _ HBx19.out) (by rfl) (fun w hw => ?_) ?_
      · unfold lookV; constructor <;> go_simp
      refine whichever_take 8 (lookV l2 NB mn mc BB cn cc) [] rfl (by kernel_rfl) (fun _ _ _ h => h) (HS.out _ HBx19.out) (by rfl) (fun w hw => ?_) ?_
      · unfold lookV; constructor <;> go_simp
      refine whichever_take 9 (.int .i64 z) [] rfl (by kernel_rfl) (fun _ _ _ h => h) (HS.out _ HBx19.out) (by rfl) (fun w hw => ?_) ?_
      · unfold lookV; constructor <;> go_simp
      have hcy := cells_block HYx19.out
      have HCY := Lib.hid hcy
      clear hcy
      have lf0 : x19.cell? ⟨Y, 0, none⟩ = some (.bool false) := HCY.out.1 0 (by omega)
      have lf1 : x19.cell? ⟨Y, 1, none⟩ = some (.int .i64 0) := HCY.out.1 1 (by omega)
      have lf2 : x19.cell? ⟨Y, 2, none⟩ = some (.int .i64 0) := HCY.out.1 2 (by omega)
      have lf3 : x19.cell? ⟨Y, 3, none⟩ = some (.int .i64 0) := HCY.out.1 3 (by omega)
      have lf4 : x19.cell? ⟨Y, 4, none⟩ = some (.int .i64 0) := HCY.out.1 4 (by omega)
      have lf5 : x19.cell? ⟨Y, 5, none⟩ = some (.int .i64 0) := HCY.out.1 5 (by omega)
      have lf6 : x19.cell? ⟨Y, 6, none⟩ = some (.int .i64 0) := HCY.out.1 6 (by omega)
      have lf7 : x19.cell? ⟨Y, 7, none⟩ = some (.slice none 0 0) := HCY.out.1 7 (by omega)
      have lf8 : x19.cell? ⟨Y, 8, none⟩ = some (.slice none 0 0) := HCY.out.1 8 (by omega)
      have hfr : ∀ i, x19.frozen? ⟨Y, i, none⟩ = false := HCY.out.2
      unfold lookV
      refine whichever_next 11 rfl (by kernel_rfl) (by rfl) ?_
      go_simp
      have HE : Hid (CellsAt (putTo x19 Y (cellsLk l2 NB mn mc BB cn cc) 9) Y 9 (cellsLk l2 NB mn mc BB cn cc)) := putTo_all HCY.out
      have HBE : Hid (Below B0 wr (putTo x19 Y (cellsLk l2 NB mn mc BB cn cc) 9)) := below_putTo HBx19.out hYB 9
      have HRE : Hid (RowsAt B0 (putTo x19 Y (cellsLk l2 NB mn mc BB cn cc) 9) l2.res NB mn mc BB cn cc) := (HRx19.out.putTo HYlx18.out 9).below (Below.refl _ _) HRBx19.out
      refine ⟨HS.out _ HBE.out, ?_⟩
      refine whichever_next 12 rfl (by kernel_rfl) (by rfl) ?_
      go_simp
      refine ⟨HS.out _ HBE.out, ?_⟩
      refine whichever_end (by kernel_rfl) ?_
      refine HKF.out _ _ ?_
      go_meet
      rw [hB0e]
      exact ⟨Y, NB, mn, mc, BB, cn, cc, rfl, rfl, HE.out, HRE.out, hYB, HBE.out⟩
  case rest =>
    obtain ⟨Y, NB, mn, mc, BB, cn, cc, rfl, rfl, hCY, hRB, hYB, hBx⟩ := hcut
    have HBC := Lib.hid (HB3.out.trans ((Below.refl w3.heap.size w3).drew.trans hBx |>.mono (by omega)))
    have HCX := Lib.hid (HX3.out.below ((Below.refl w3.heap.size w3).drew.trans hBx) (by omega))
    have HRX := Lib.hid (HR3.out.below ((Below.refl w3.heap.size w3).drew.trans hBx) (Nat.le_refl _))
    have HOC := Lib.hid (HO3.out.below ((Below.refl w3.heap.size w3).drew.trans hBx) (by omega))
    have HCY := Lib.hid hCY
    have HRY := Lib.hid hRB
    have hsc : w3.heap.size ≤ wc.heap.size := by have := hBx.size; exact this
    have hYl : Y < wc.heap.size := World.block_lt_of_cell? wc ⟨Y, 0, none⟩ (hCY.1 0 (by omega))
    clear hCY hRB hBx HB3 HX3 HR3 HO3 HB HRF HRG HFL HML H1 hi hz0 hz1 hz2
    rcases HZ.out with hz | ⟨rfl, hlat, hgood⟩
    · have hzb : (z != 0) = true := by rw [bne_iff_ne]; exact hz
      have hzz : (z == z) = true := by simp
      clear hz HZ
      go_wp2_with (go_at_call 11; refine (HNM.out _ _).mono ?_; rintro e w9 ⟨rfl, rfl⟩)
      refine (HWK.out _).mono ?_
      rintro e w9 ⟨rfl, hb9⟩
      go_wp2_with fail
      go_ret
      exact ⟨rfl, HBC.out.trans (hb9.mono HBC.out.size)⟩
    · clear HZ
      go_upto_region 7 with (go_at_call 11; refine (HNM.out _ _).mono ?_; rintro e w9 ⟨rfl, rfl⟩)
      have hl2 := hlat.more
      go_cut [95] from 13 to 94 (fun s95 wy => s95 = .bool false ∧ Below w9.heap.size w9 wy)
      case first =>
        rename_i J K' hJ hK'
        have x0 : w9.cell? ⟨X, 0, none⟩ = some (.bool l.more) := HCX.out.1 0 (by omega)
        have x1 : w9.cell? ⟨X, 1, none⟩ = some (.int .i64 l.at_) := HCX.out.1 1 (by omega)
        have x2 : w9.cell? ⟨X, 2, none⟩ = some (.int .i64 l.used) := HCX.out.1 2 (by omega)
        have x3 : w9.cell? ⟨X, 3, none⟩ = some (.int .i64 l.res.no) := HCX.out.1 3 (by omega)
        have x4 : w9.cell? ⟨X, 4, none⟩ = some (.int .i64 l.res.kind) := HCX.out.1 4 (by omega)
        have x5 : w9.cell? ⟨X, 5, none⟩ = some (.int .i64 l.res.links) := HCX.out.1 5 (by omega)
        have x6 : w9.cell? ⟨X, 6, none⟩ = some (.int .i64 l.res.n) := HCX.out.1 6 (by omega)
        have x7 : w9.cell? ⟨X, 7, none⟩ = some (.slice NA nn nc) := HCX.out.1 7 (by omega)
        have x8 : w9.cell? ⟨X, 8, none⟩ = some (.slice BA bn bc) := HCX.out.1 8 (by omega)
        have y0 : w9.cell? ⟨Y, 0, none⟩ = some (.bool l2.more) := HCY.out.1 0 (by omega)
        have y1 : w9.cell? ⟨Y, 1, none⟩ = some (.int .i64 l2.at_) := HCY.out.1 1 (by omega)
        have y2 : w9.cell? ⟨Y, 2, none⟩ = some (.int .i64 l2.used) := HCY.out.1 2 (by omega)
        have y3 : w9.cell? ⟨Y, 3, none⟩ = some (.int .i64 l2.res.no) := HCY.out.1 3 (by omega)
        have y4 : w9.cell? ⟨Y, 4, none⟩ = some (.int .i64 l2.res.kind) := HCY.out.1 4 (by omega)
        have y5 : w9.cell? ⟨Y, 5, none⟩ = some (.int .i64 l2.res.links) := HCY.out.1 5 (by omega)
        have y6 : w9.cell? ⟨Y, 6, none⟩ = some (.int .i64 l2.res.n) := HCY.out.1 6 (by omega)
        have y7 : w9.cell? ⟨Y, 7, none⟩ = some (.slice NB mn mc) := HCY.out.1 7 (by omega)
        have y8 : w9.cell? ⟨Y, 8, none⟩ = some (.slice BB cn cc) := HCY.out.1 8 (by omega)
        cases hm : l.more with
        | false =>
          have e := hlat.same hm
          have hu := hlat.used hm
          subst e
          have HD := Lib.hid (same22_any l2 NA NB BA BB nn nc bn bc mn mc cn cc _ _ w9 HRX.out HRY.out)
          unfold lookV at HD
          rw [hm] at x0 y0 HD
          have hub : decide (nf < l2.used) = false := decide_eq_false (by omega)
          clear hlat hgood hl2 hm hu
          go_wp2_with (first
            | (go_at_call 11; refine (HNM.out _ _).mono ?_; rintro e w9 ⟨rfl, rfl⟩)
            | (go_at_call 10; refine HD.out.mono ?_; rintro e w10 ⟨rfl, hb10⟩; have x0' : w10.cell? ⟨X, 0, none⟩ = some (.bool false) := (hb10.cell (p := ⟨X, 0, none⟩) (by show X < _; omega)).trans x0; have x2' : w10.cell? ⟨X, 2, none⟩ = some (.int .i64 l2.used) := (hb10.cell (p := ⟨X, 2, none⟩) (by show X < _; omega)).trans x2; have y0' : w10.cell? ⟨Y, 0, none⟩ = some (.bool false) := (hb10.cell (p := ⟨Y, 0, none⟩) hYl).trans y0))
          go_meet
          exact ⟨by first | rfl | rw [hub], hb10⟩
        | true =>
          rw [hm] at x0
          cases hm2 : l2.more with
          | true =>
            rw [hm2] at y0
            clear hlat hgood hl2 hm hm2
            go_wp2_with (first
              | (go_at_call 11; refine (HNM.out _ _).mono ?_; rintro e w9 ⟨rfl, rfl⟩)
              | (go_at_call 10; refine HD.out.mono ?_; rintro e w10 ⟨rfl, hb10⟩; have x0' : w10.cell? ⟨X, 0, none⟩ = some (.bool false) := (hb10.cell (p := ⟨X, 0, none⟩) (by show X < _; omega)).trans x0; have x2' : w10.cell? ⟨X, 2, none⟩ = some (.int .i64 l2.used) := (hb10.cell (p := ⟨X, 2, none⟩) (by show X < _; omega)).trans x2; have y0' : w10.cell? ⟨Y, 0, none⟩ = some (.bool false) := (hb10.cell (p := ⟨Y, 0, none⟩) hYl).trans y0))
            go_meet
            exact ⟨rfl, Below.refl _ _⟩
          | false =>
            have hu := hl2 hm hm2
            rw [hm2] at y0
            have hub : decide (l2.used ≤ nf) = false := decide_eq_false (by omega)
            clear hlat hgood hl2 hm hm2 hu
            go_wp2_with (first
              | (go_at_call 11; refine (HNM.out _ _).mono ?_; rintro e w9 ⟨rfl, rfl⟩)
              | (go_at_call 10; refine HD.out.mono ?_; rintro e w10 ⟨rfl, hb10⟩; have x0' : w10.cell? ⟨X, 0, none⟩ = some (.bool false) := (hb10.cell (p := ⟨X, 0, none⟩) (by show X < _; omega)).trans x0; have x2' : w10.cell? ⟨X, 2, none⟩ = some (.int .i64 l2.used) := (hb10.cell (p := ⟨X, 2, none⟩) (by show X < _; omega)).trans x2; have y0' : w10.cell? ⟨Y, 0, none⟩ = some (.bool false) := (hb10.cell (p := ⟨Y, 0, none⟩) hYl).trans y0))
            go_meet
            exact ⟨by first | rfl | rw [hub], Below.refl _ _⟩
      case rest =>
        obtain ⟨rfl, hby⟩ := hcut
        have HBC := Lib.hid (HBC.out.trans (hby.mono HBC.out.size))
        have HCX := Lib.hid (HCX.out.below hby (by omega))
        have HCY := Lib.hid (HCY.out.below hby hYl)
        have HRX := Lib.hid (HRX.out.below hby (Nat.le_refl _))
        have HRY := Lib.hid (HRY.out.below hby (Nat.le_refl _))
        have HOC := Lib.hid (HOC.out.below hby (by omega))
        have hsc : w3.heap.size ≤ wc.heap.size := by have := hby.size; omega
        have hYl : Y < wc.heap.size := by have := hby.size; omega
        clear hby
        go_upto_region 9 with fail
        go_cut [108] from 13 to 107 (fun s108 wy => s108 = .bool false ∧ Below wc.heap.size wc wy)
        case first =>
          rename_i J K' hJ hK'
          have x0 : wc.cell? ⟨X, 0, none⟩ = some (.bool l.more) := HCX.out.1 0 (by omega)
          have x1 : wc.cell? ⟨X, 1, none⟩ = some (.int .i64 l.at_) := HCX.out.1 1 (by omega)
          have x2 : wc.cell? ⟨X, 2, none⟩ = some (.int .i64 l.used) := HCX.out.1 2 (by omega)
          have x3 : wc.cell? ⟨X, 3, none⟩ = some (.int .i64 l.res.no) := HCX.out.1 3 (by omega)
          have x4 : wc.cell? ⟨X, 4, none⟩ = some (.int .i64 l.res.kind) := HCX.out.1 4 (by omega)
          have x5 : wc.cell? ⟨X, 5, none⟩ = some (.int .i64 l.res.links) := HCX.out.1 5 (by omega)
          have x6 : wc.cell? ⟨X, 6, none⟩ = some (.int .i64 l.res.n) := HCX.out.1 6 (by omega)
          have x7 : wc.cell? ⟨X, 7, none⟩ = some (.slice NA nn nc) := HCX.out.1 7 (by omega)
          have x8 : wc.cell? ⟨X, 8, none⟩ = some (.slice BA bn bc) := HCX.out.1 8 (by omega)
          have y0 : wc.cell? ⟨Y, 0, none⟩ = some (.bool l2.more) := HCY.out.1 0 (by omega)
          have y1 : wc.cell? ⟨Y, 1, none⟩ = some (.int .i64 l2.at_) := HCY.out.1 1 (by omega)
          have y2 : wc.cell? ⟨Y, 2, none⟩ = some (.int .i64 l2.used) := HCY.out.1 2 (by omega)
          have y3 : wc.cell? ⟨Y, 3, none⟩ = some (.int .i64 l2.res.no) := HCY.out.1 3 (by omega)
          have y4 : wc.cell? ⟨Y, 4, none⟩ = some (.int .i64 l2.res.kind) := HCY.out.1 4 (by omega)
          have y5 : wc.cell? ⟨Y, 5, none⟩ = some (.int .i64 l2.res.links) := HCY.out.1 5 (by omega)
          have y6 : wc.cell? ⟨Y, 6, none⟩ = some (.int .i64 l2.res.n) := HCY.out.1 6 (by omega)
          have y7 : wc.cell? ⟨Y, 7, none⟩ = some (.slice NB mn mc) := HCY.out.1 7 (by omega)
          have y8 : wc.cell? ⟨Y, 8, none⟩ = some (.slice BB cn cc) := HCY.out.1 8 (by omega)
          cases hm : l.more with
          | false =>
            rw [hm] at x0
            clear hlat hgood hl2 hm
            go_wp2_with fail
            go_meet
            exact ⟨rfl, Below.refl _ _⟩
          | true =>
            rw [hm] at x0
            by_cases hnm0 : nm = 0
            · have e := hlat.none hnm0
              subst e
              have HD := Lib.hid (same22_any l2 NA NB BA BB nn nc bn bc mn mc cn cc _ _ wc HRX.out HRY.out)
              unfold lookV at HD
              rw [hm] at y0 HD
              have hq : ((nm : Int) == 0) = true := by rw [hnm0]; rfl
              clear hlat hgood hl2 hm hnm0
              go_wp2_with (go_at_call 10; refine HD.out.mono ?_; rintro e w10 ⟨rfl, hb10⟩)
              go_meet
              exact ⟨rfl, hb10⟩
            · have hq : ((nm : Int) == 0) = false := by rw [beq_eq_false_iff_ne]; omega
              clear hlat hgood hl2 hm hnm0
              go_wp2_with fail
              go_meet
              exact ⟨rfl, Below.refl _ _⟩
        case rest =>
          obtain ⟨rfl, hby⟩ := hcut
          have HBD := Lib.hid (HBC.out.trans (hby.mono HBC.out.size))
          have HCD := Lib.hid (HCY.out.below hby hYl)
          have HRD := Lib.hid (HRY.out.below hby (Nat.le_refl _))
          have HOD := Lib.hid (HOC.out.below hby (by omega))
          have hsd : w3.heap.size ≤ wc.heap.size := by have := hby.size; omega
          have hYd : Y < wc.heap.size := by have := hby.size; omega
          have HGD := Lib.hid hgood
          clear hby hlat hl2 HCX HRX HCY HRY HOC HBC hsc hYl hgood
          have y0 : wc.cell? ⟨Y, 0, none⟩ = some (.bool l2.more) := HCD.out.1 0 (by omega)
          have y1 : wc.cell? ⟨Y, 1, none⟩ = some (.int .i64 l2.at_) := HCD.out.1 1 (by omega)
          have y2 : wc.cell? ⟨Y, 2, none⟩ = some (.int .i64 l2.used) := HCD.out.1 2 (by omega)
          have y3 : wc.cell? ⟨Y, 3, none⟩ = some (.int .i64 l2.res.no) := HCD.out.1 3 (by omega)
          have y4 : wc.cell? ⟨Y, 4, none⟩ = some (.int .i64 l2.res.kind) := HCD.out.1 4 (by omega)
          have y5 : wc.cell? ⟨Y, 5, none⟩ = some (.int .i64 l2.res.links) := HCD.out.1 5 (by omega)
          have y6 : wc.cell? ⟨Y, 6, none⟩ = some (.int .i64 l2.res.n) := HCD.out.1 6 (by omega)
          have y7 : wc.cell? ⟨Y, 7, none⟩ = some (.slice NB mn mc) := HCD.out.1 7 (by omega)
          have y8 : wc.cell? ⟨Y, 8, none⟩ = some (.slice BB cn cc) := HCD.out.1 8 (by omega)
          go_wp2_with fail
          obtain ⟨Z, hZ⟩ : ∃ Z, wc.heap.size = Z := ⟨_, rfl⟩
          obtain ⟨wd, hwd⟩ : ∃ x, wc.alloc (.cells #[.int .i64 l2.res.no, .int .i64 l2.res.kind, .int .i64 l2.res.links, .int .i64 l2.res.n, .slice NB mn mc, .slice BB cn cc] 33) = x := ⟨_, rfl⟩
          have hbd : Below wc.heap.size wc wd := by rw [← hwd]; exact (Below.refl _ _).alloc (Nat.le_refl _) _
          have HZD : Hid (CellsAt wd Z 6 (cellsO l2.res NB mn mc BB cn cc)) := by
            rw [Hid, ← hwd, ← hZ]
            exact cellsAt_new _ _ _ _ _ fun i hi => match i, hi with | 0, _ => rfl | 1, _ => rfl | 2, _ => rfl | 3, _ => rfl | 4, _ => rfl | 5, _ => rfl
          have HBD := Lib.hid (HBD.out.trans (hbd.mono HBD.out.size))
          have HOD := Lib.hid (HOD.out.below hbd (by omega))
          have HRD := Lib.hid (HRD.out.below hbd (Nat.le_refl _))
          have hsd : wd.heap.size = Z + 1 := by rw [← hwd, ← hZ]; simp
          rw [hwd, hZ]
          clear hwd hbd HCD y0 y1 y2 y3 y4 y5 y6 y7 y8
          obtain ⟨q1, q2, q3, q4, q5, q6, q7, q8, q9, q10⟩ := HRD.out
          have hmn : mn ≤ 9223372036854775807 := by unfold maxLen at q6; omega
          have HQ1 := Lib.hid q1
          have HQ2 := Lib.hid q2
          have HQ7 := Lib.hid q7
          clear q1 q2 q3 q4 q5 q6 q7 q8 q9 q10
          have hst : (Value.int .i64 1 : Value) = .int .i64 (((0 : Nat) : Int) + 1) := rfl
          go_loopw [12] (fun i wr => ∃ q : Nat, (q + 1 ≤ mn ∨ q = 0) ∧ i = .int .i64 ((q : Int) + 1) ∧ Below wd.heap.size wd wr) (fun i _ => (mn : Int).toNat + 1 - (intOf i).toNat)
          case atStart => exact ⟨0, .inr rfl, rfl, Below.refl _ _⟩
          case round =>
            clear hst
            obtain ⟨q, hq, rfl, hb⟩ := hrel
            have HB := Lib.hid hb
            have hcz := HZD.out.below hb (by omega)
            have HCZ := Lib.hid hcz
            have hsr : Z < wr.heap.size := by have := hb.size; omega
            have z4 : wr.cell? ⟨Z, 4, none⟩ = some (.slice NB mn mc) := hcz.1 4 (by omega)
            by_cases hlt : q + 1 < mn
            · obtain ⟨b, off, rfl, hbl, hcb⟩ := HQ7.out (by rw [List.length_map, HQ1.out]; omega)
              have hx1 : q < l2.res.names.length := by rw [HQ1.out]; omega
              have hx2 : q + 1 < l2.res.names.length := by rw [HQ1.out]; exact hlt
              have c1 : wr.cell? ⟨b, off + q, none⟩ = some (.string (ofBytes l2.res.names[q])) := (hb.cell (p := ⟨b, off + q, none⟩) hbl).trans (hcb q _ (by rw [List.getElem?_map, List.getElem?_eq_getElem hx1]; rfl))
              have c2 : wr.cell? ⟨b, off + (q + 1), none⟩ = some (.string (ofBytes l2.res.names[q + 1])) := (hb.cell (p := ⟨b, off + (q + 1), none⟩) hbl).trans (hcb (q + 1) _ (by rw [List.getElem?_map, List.getElem?_eq_getElem hx2]; rfl))
              have hless : Op.bytesLess (ofBytes l2.res.names[q]).toList (ofBytes l2.res.names[q + 1]).toList = true := by
                rw [bytesLess_cmp, ofBytes_toList, ofBytes_toList]
                have := List.pairwise_iff_getElem.1 HGD.out.rise q (q + 1) hx1 hx2 (by omega)
                exact decide_eq_true this
              generalize ofBytes l2.res.names[q] = s1 at *
              generalize ofBytes l2.res.names[q + 1] = s2 at *
              clear hx1 hx2 hcb hb hcz
              have i1 : (0 : Int) ≤ (q : Int) := by omega
              have i2 : (q : Int) < (mn : Int) := by omega
              have i3 : (q : Int) + 1 < (mn : Int) := by omega
              have i4 : (0 : Int) ≤ (q : Int) + 1 := by omega
              have i5 : ((q : Int) + 1).toNat = q + 1 := by omega
              have i6 : ((q : Int)).toNat = q := by omega
              have i7 : IntKind.i64.wrap ((q : Int) + 1 - 1) = (q : Int) := by rw [show (q : Int) + 1 - 1 = q by omega]; exact IntWalk.i64_in _ (by omega)
              have i8 : decide ((q : Int) + 1 < (mn : Int)) = true := decide_eq_true i3
              clear hq hlt
              go_wp2_with fail
              go_quiet (fail)
              have hbq : Below wd.heap.size wd (wr.drewN nq) := below_drewN HB.out nq
              go_wp2_with fail
              go_roundw
              case rel => exact ⟨q + 1, .inl (by omega), by go_num, hbq⟩
              case measure => simp [intOf]; omega
            · have i8 : decide ((q : Int) + 1 < (mn : Int)) = false := decide_eq_false (by omega)
              have z5 : wr.cell? ⟨Z, 5, none⟩ = some (.slice BB cn cc) := HCZ.out.1 5 (by omega)
              have o4 : wr.cell? ⟨W.heap.size, 4, none⟩ = some (.int .i64 n) := (HOD.out.below hb (by omega)).1 4 (by omega)
              have hcn : decide ((cn : Int) ≤ max 0 n) = true := by
                have h1 := HGD.out.few
                rw [HQ2.out] at h1
                exact decide_eq_true (by omega)
              go_wp2_with fail
              refine (HWK.out _).mono ?_
              rintro e w9 ⟨rfl, hb9⟩
              go_wp2_with fail
              go_ret
              exact ⟨rfl, (HBD.out.trans (HB.out.mono (by omega))).trans (hb9.mono (by have := HB.out.size; omega))⟩
end Go.Proofs.YtdpooagnbmpinaaGreatDoor

namespace Go.Proofs.YtdpooagnbmpinaaGreatDoor
open Go.RowKit
attribute [local go_sem] Oper.semAt_some

set_option maxRecDepth 400000 in
set_option maxHeartbeats 2000000 in
theorem lookHolds_out (k : Int) (p d : ByteArray) (a n : Int) (A : Option Addr) (m c : Nat) (F G : Option Addr) (nf nm cf cm : Nat) (W : World) (h : ¬ (p.size ≤ 200 ∧ d.size ≤ 200 ∧ m ≤ 500) ∨ 150 < nf ∨ 150 < nm) :
    Calls Tryz.prog 4 #[opV k p d a n A m c, .slice F nf cf, .slice G nm cm] W fun e W' => e = .returned (.bool true) ∧ Below W.heap.size W W' := by
  obtain ⟨W0, hW0⟩ : ∃ W0, W.alloc (.cells #[.int .i64 k, .string p, .string d, .int .i64 a, .int .i64 n, .slice A m c] 28) = W0 := ⟨_, rfl⟩
  have hb0 : Below W.heap.size W W0 := by rw [← hW0]; exact (Below.refl _ _).alloc (Nat.le_refl _) _
  have hs0 : W0.heap.size = W.heap.size + 1 := by rw [← hW0]; simp
  have hfw := few22_any k p d a n A m c W0
  have H : Hid (decide (p.size ≤ 200 ∧ d.size ≤ 200 ∧ m ≤ 500) = false ∨ (decide (p.size ≤ 200 ∧ d.size ≤ 200 ∧ m ≤ 500) = true ∧ decide ((150 : Int) < (nf : Int)) = true) ∨ (decide (p.size ≤ 200 ∧ d.size ≤ 200 ∧ m ≤ 500) = true ∧ decide ((150 : Int) < (nf : Int)) = false ∧ decide ((150 : Int) < (nm : Int)) = true)) := by
    rw [Hid]
    by_cases h1 : p.size ≤ 200 ∧ d.size ≤ 200 ∧ m ≤ 500
    · by_cases h2 : 150 < nf
      · exact .inr (.inl ⟨decide_eq_true h1, decide_eq_true (by omega)⟩)
      · exact .inr (.inr ⟨decide_eq_true h1, decide_eq_false (by omega), decide_eq_true (by omega)⟩)
    · exact .inl (decide_eq_false h1)
  clear h
  generalize decide (p.size ≤ 200 ∧ d.size ≤ 200 ∧ m ≤ 500) = fb at *
  unfold opV at hfw ⊢
  have HFW := Lib.hid hfw
  have HB0 := Lib.hid hb0
  have HW0 := Lib.hid hW0
  have HK := Lib.hid works22_any
  clear hfw hb0 hW0
  rcases H.out with rfl | ⟨rfl, h2⟩ | ⟨rfl, h2, h3⟩
  all_goals
    go_enter Tryz.func4, Tryz.ntmps4
    go_wp2_with (go_at_call 12; rw [HW0.out]; refine HFW.out.mono ?_; rintro e w1 ⟨rfl, hb1⟩)
    refine (HK.out _).mono ?_
    rintro e w2 ⟨rfl, hb2⟩
    go_wp2_with fail
    go_ret
    exact ⟨rfl, HB0.out.trans ((hb1.trans (hb2.mono hb1.size)).mono (by omega))⟩
theorem lookHolds_any (k : Int) (p d : ByteArray) (a n : Int) (A : Option Addr) (m c : Nat) (bs : List UInt8) (fed : List Nat) (F : Option Addr) (nf cf : Nat) (more : List Nat) (G : Option Addr) (nm cm : Nat) (W : World)
    (hk : -9223372036854775808 ≤ k ∧ k < 9223372036854775808) (ha : a < 9223372036854775808) (hn : n < 9223372036854775808) (hl : bs.length = m) (hmc : m ≤ c) (hc : c ≤ maxLen) (hrow : RowAt W A (bs.map encB))
    (hfl : fed.length = nf) (_ : nf ≤ cf) (_ : cf ≤ maxLen) (hxf : ∀ x ∈ fed, x < 18446744073709551616) (hrF : RowAt W F (fed.map encW))
    (hml : more.length = nm) (_ : nm ≤ cm) (_ : cm ≤ maxLen) (hxm : ∀ x ∈ more, x < 18446744073709551616) (hrG : RowAt W G (more.map encW)) :
    Calls Tryz.prog 4 #[.agg #[.int .i64 k, .string p, .string d, .int .i64 a, .int .i64 n, .slice A m c], .slice F nf cf, .slice G nm cm] W fun e W' => e = .returned (.bool true) ∧ Below W.heap.size W W' := by
  by_cases ho : ¬ (p.size ≤ 200 ∧ d.size ≤ 200 ∧ m ≤ 500) ∨ 150 < nf ∨ 150 < nm
  · exact lookHolds_out k p d a n A m c F G nf nm cf cm W ho
  · have h1 : p.size ≤ 200 ∧ d.size ≤ 200 ∧ m ≤ 500 := by
      refine Decidable.byContradiction fun h => ho (.inl h)
    have h2 : nf ≤ 150 := by omega
    have h3 : nm ≤ 150 := by omega
    have hlen : (fed ++ more).length = nf + nm := by rw [List.length_append, hfl, hml]
    have hxa : ∀ x ∈ fed ++ more, x < 18446744073709551616 := fun x hx => (List.mem_append.1 hx).elim (hxf x) (hxm x)
    have hA : ∀ W', Below W.heap.size W W' → Calls Tryz.prog 8 #[opV k p d a n A m c, .slice F nf cf] W' (LookR (lookN k (bytesOf p) (bytesOf d) a n m fed) W') := fun W' hb =>
      lookRun_any k p d a n A m c bs W' hk (by omega) (by omega) hl (by omega) (hrow.below hb) ha hn hfl hxf (hrF.below hb)
    have hB : ∀ C c' W', Below W.heap.size W W' → RowAt W' C ((fed ++ more).map encW) → Calls Tryz.prog 8 #[opV k p d a n A m c, .slice C (nf + nm) c'] W' (LookR (lookN k (bytesOf p) (bytesOf d) a n m (fed ++ more)) W') := fun C c' W' hb hr =>
      lookRun_any k p d a n A m c bs W' hk (by omega) (by omega) hl (by omega) (hrow.below hb) ha hn hlen hxa hr
    by_cases hz : refuseN k (bytesOf p) (bytesOf d) a n m = 0
    · rw [lookN_fine hz (by omega)] at hA
      rw [lookN_fine hz (by omega)] at hB
      have hlat := laterL_of (readP (bytesOf p)).2 k a.toNat n.toNat fed more
      rw [hfl, hml] at hlat
      exact lookHolds_in k p d a n A m c F G fed more nf nm cf cm _ _ 0 W h1 h2 h3 hfl hml hrF hrG hn (.inr ⟨rfl, hlat, lookOf_good _ _ _ _ _⟩) hA hB
    · rw [lookN_refused _ hz] at hA
      simp only [lookN_refused _ hz] at hB
      exact lookHolds_in k p d a n A m c F G fed more nf nm cf cm _ _ _ W h1 h2 h3 hfl hml hrF hrG hn (.inl hz) hA hB
end Go.Proofs.YtdpooagnbmpinaaGreatDoor

namespace Go.Proofs.YtdpooagnbmpinaaGreatDoor
open Go.RowKit
attribute [local go_sem] Oper.semAt_some

/-- A walk's cells. -/
def walkB (b : Bool) (p u e l k n t : Int) : Nat → Value := cellsW (.bool b) (.int .i64 p) (.int .i64 u) (.int .i64 e) (.int .i64 l) (.int .i64 k) (.int .i64 n) (.int .i64 t)
theorem runP_fine {s : List UInt8} {fed : List Nat} (h : fed.length ≤ 20000) (hz : (readP s).1 = 0) : runP s fed = (runF (walkedP fed (readP s).2), 0) := by
  have hb : begunN s fed.length = 0 := by unfold begunN; rw [if_pos hz, if_neg (by omega)]
  unfold runP
  rw [if_pos hb]
/-- How a look begins with its walk. -/
def BeginsB (l : LookP) (b : Bool) (a1 a2 a3 : Int) : Prop :=
  (b = true ∧ l.more = true ∧ (l.at_ : Int) = a1) ∨ (b = false ∧ a3 ≠ 0 ∧ l.more = false ∧ (l.used : Int) = a2 ∧ (l.res.no : Int) = a3) ∨ (b = false ∧ a3 = 0 ∧ (l.more = true ∨ (l.more = false ∧ a2 ≤ l.used)))
theorem begins_of (names : List (List UInt8)) (k : Int) (a n : Nat) (fed : List Nat) : ∃ b a1 a2 a3 a4 a5 a6 a7, runF (walkedP fed names) = walkB b a1 a2 a3 a4 a5 a6 a7 ∧ BeginsB (lookOf (lookF names k a n fed [])) b a1 a2 a3 := by
  have e : walkedP fed names = walkF names fed [] := rfl
  rw [e]
  unfold lookF
  cases hr : walkF names fed [] with
  | val t l0 =>
    refine ⟨_, _, _, _, _, _, _, _, rfl, .inr (.inr ⟨rfl, rfl, ?_⟩)⟩
    have hx := ((Good.ask k a n t.2).ext fed l0).length_le
    simp only [Res.bind]
    cases hq : askE k a n t.2 fed l0 with
    | val r l => rw [hq] at hx; simp only [Res.ats] at hx; exact .inr ⟨rfl, by simp only [lookOf]; omega⟩
    | stop o l =>
      rw [hq] at hx
      cases o with
      | need p => exact .inl rfl
      | err c => simp only [Res.ats] at hx; exact .inr ⟨rfl, by simp only [lookOf]; omega⟩
  | stop o l0 =>
    cases o with
    | need p => exact ⟨_, _, _, _, _, _, _, _, rfl, .inl ⟨rfl, rfl, rfl⟩⟩
    | err c =>
      refine ⟨_, _, _, _, _, _, _, _, rfl, ?_⟩
      by_cases hc : c = 0
      · subst hc
        exact .inr (.inr ⟨rfl, rfl, .inr ⟨rfl, by simp [Res.bind, lookOf]⟩⟩)
      · exact .inr (.inl ⟨rfl, by omega, rfl, rfl, rfl⟩)
set_option maxRecDepth 400000 in
set_option maxHeartbeats 8000000 in
theorem lookBegins_in (k : Int) (p d : ByteArray) (a n : Int) (A : Option Addr) (m c : Nat) (F : Option Addr) (nf cf : Nat) (l : LookP) (z : Int) (b : Bool) (a1 a2 a3 a4 a5 a6 a7 : Int) (W : World) (hfew : p.size ≤ 200 ∧ d.size ≤ 200 ∧ m ≤ 500)
    (hnf : nf ≤ 200)
    (hz : z ≠ 0 ∨ (z = 0 ∧ BeginsB l b a1 a2 a3))
    (hA : ∀ W', Below W.heap.size W W' → Calls Tryz.prog 8 #[opV k p d a n A m c, .slice F nf cf] W' (LookR (l, z) W'))
    (hW : z = 0 → ∀ W', Below W.heap.size W W' → Calls Tryz.prog 13 #[.string p, .slice F nf cf] W' fun e w => e = .returned (.tuple #[agg8 (walkB b a1 a2 a3 a4 a5 a6 a7), .int .i64 0]) ∧ Below W'.heap.size W' w) :
    Calls Tryz.prog 5 #[opV k p d a n A m c, .slice F nf cf] W fun e W' => e = .returned (.bool true) ∧ Below W.heap.size W W' := by
  obtain ⟨W0, hW0⟩ : ∃ W0, W.alloc (.cells #[.int .i64 k, .string p, .string d, .int .i64 a, .int .i64 n, .slice A m c] 28) = W0 := ⟨_, rfl⟩
  have h0 := lawBegun k p d a n A m c W W0 hW0
  have hfw := few22_any k p d a n A m c W0
  rw [decide_eq_true hfew] at hfw
  have hs0 := h0.size
  have hq1 : decide ((200 : Int) < (nf : Int)) = false := decide_eq_false (by omega)
  unfold opV at hfw hA ⊢
  unfold agg8 walkB cellsW at hW
  have HFW := Lib.hid hfw
  have HA := Lib.hid hA
  have HW := Lib.hid hW
  have H0 := Lib.hid h0
  have HW0 := Lib.hid hW0
  have HZ := Lib.hid hz
  have HWK := Lib.hid works22_any
  have HNM := Lib.hid num22_any
  clear hfw hA hW h0 hW0 hfew hz
  go_enter Tryz.func5, Tryz.ntmps5
  go_wp2_with (go_at_call 12; rw [HW0.out]; refine HFW.out.mono ?_; rintro e w1 ⟨rfl, hb1⟩; have HO1 := Lib.hid (H0.out.op.below hb1 (by omega)); have HB1 := Lib.hid (H0.out.below.trans (hb1.mono (by omega))); have hs1 : W.heap.size + 1 ≤ w1.heap.size := (by have := hb1.size; omega); have o0 : w1.cell? ⟨W.heap.size, 0, none⟩ = some (.int .i64 k) := HO1.out.1 0 (by omega); have o1 : w1.cell? ⟨W.heap.size, 1, none⟩ = some (.string p) := HO1.out.1 1 (by omega); have o2 : w1.cell? ⟨W.heap.size, 2, none⟩ = some (.string d) := HO1.out.1 2 (by omega); have o3 : w1.cell? ⟨W.heap.size, 3, none⟩ = some (.int .i64 a) := HO1.out.1 3 (by omega); have o4 : w1.cell? ⟨W.heap.size, 4, none⟩ = some (.int .i64 n) := HO1.out.1 4 (by omega); have o5 : w1.cell? ⟨W.heap.size, 5, none⟩ = some (.slice A m c) := HO1.out.1 5 (by omega); clear hb1)
  refine (HA.out w1 HB1.out).mono ?_
  rintro e w2 ⟨⟨NA, nn, nc, BA, bn, bc, rfl, hrow⟩, hb2⟩
  obtain ⟨X, hX⟩ : ∃ X, w2.heap.size = X := ⟨_, rfl⟩
  obtain ⟨w3, hw3⟩ : ∃ x, w2.alloc (.cells #[.bool l.more, .int .i64 l.at_, .int .i64 l.used, .int .i64 l.res.no, .int .i64 l.res.kind, .int .i64 l.res.links, .int .i64 l.res.n, .slice NA nn nc, .slice BA bn bc] 35) = x := ⟨_, rfl⟩
  have hb3 : Below w2.heap.size w2 w3 := by rw [← hw3]; exact (Below.refl _ _).alloc (Nat.le_refl _) _
  have HX3 : Hid (CellsAt w3 X 9 (cellsLk l NA nn nc BA bn bc)) := by
    rw [Hid, ← hw3, ← hX]
    exact cellsAt_new _ _ _ _ _ fun i hi => match i, hi with | 0, _ => rfl | 1, _ => rfl | 2, _ => rfl | 3, _ => rfl | 4, _ => rfl | 5, _ => rfl | 6, _ => rfl | 7, _ => rfl | 8, _ => rfl
  have hs2 := hb2.size
  have HO3 := Lib.hid ((HO1.out.below hb2 (by omega)).below hb3 (by omega))
  have HB3 := Lib.hid (HB1.out.trans ((hb2.trans (hb3.mono hb2.size)).mono (by omega)))
  have hs3 : w3.heap.size = X + 1 := by rw [← hw3, ← hX]; simp
  have HW3 := Lib.hid hw3
  have p1 : (w2.alloc (.cells #[.bool l.more, .int .i64 l.at_, .int .i64 l.used, .int .i64 l.res.no, .int .i64 l.res.kind, .int .i64 l.res.links, .int .i64 l.res.n, .slice NA nn nc, .slice BA bn bc] 35)).cell? ⟨W.heap.size, 1, none⟩ = some (.string p) := by rw [hw3]; exact HO3.out.1 1 (by omega)
  clear hb2 hb3 hrow hw3 o0 o1 o2 o3 o4 o5 HA H0 HFW HW0 HO1
  unfold lookV
  dsimp only
  rcases HZ.out with hz | ⟨rfl, hbeg⟩
  · have hzb : (z != 0) = true := by rw [bne_iff_ne]; exact hz
    clear hz HZ HW
    go_wp2_with (go_at_call 11; refine (HNM.out _ _).mono ?_; rintro e w9 ⟨rfl, rfl⟩)
    rw [HW3.out]
    refine (HWK.out _).mono ?_
    rintro e w9 ⟨rfl, hb9⟩
    go_wp2_with fail
    go_ret
    exact ⟨rfl, HB3.out.trans (hb9.mono HB3.out.size)⟩
  · clear HZ
    go_wp2_with (first
      | (go_at_call 11; refine (HNM.out _ _).mono ?_; rintro e w9 ⟨rfl, rfl⟩)
      | fail)
    rw [HW3.out]
    refine (HW.out (by simp) _ HB3.out).mono ?_
    rintro e w4 ⟨rfl, hb4⟩
    obtain ⟨Y, hY⟩ : ∃ Y, w4.heap.size = Y := ⟨_, rfl⟩
    have HBE : Hid (Below W.heap.size W (w4.alloc (.cells #[.bool b, .int .i64 a1, .int .i64 a2, .int .i64 a3, .int .i64 a4, .int .i64 a5, .int .i64 a6, .int .i64 a7] 48))) := (HB3.out.trans (hb4.mono HB3.out.size)).alloc (by have := hb4.size; have := HB3.out.size; omega) _
    have HX5 : Hid (CellsAt (w4.alloc (.cells #[.bool b, .int .i64 a1, .int .i64 a2, .int .i64 a3, .int .i64 a4, .int .i64 a5, .int .i64 a6, .int .i64 a7] 48)) X 9 (cellsLk l NA nn nc BA bn bc)) := (HX3.out.below hb4 (by omega)).below ((Below.refl _ _).alloc (Nat.le_refl _) _) (by have := hb4.size; omega)
    clear hb4 p1 HX3 HW HO3
    have x0 : (w4.alloc (.cells #[.bool b, .int .i64 a1, .int .i64 a2, .int .i64 a3, .int .i64 a4, .int .i64 a5, .int .i64 a6, .int .i64 a7] 48)).cell? ⟨X, 0, none⟩ = some (.bool l.more) := HX5.out.1 0 (by omega)
    have x1 : (w4.alloc (.cells #[.bool b, .int .i64 a1, .int .i64 a2, .int .i64 a3, .int .i64 a4, .int .i64 a5, .int .i64 a6, .int .i64 a7] 48)).cell? ⟨X, 1, none⟩ = some (.int .i64 l.at_) := HX5.out.1 1 (by omega)
    have x2 : (w4.alloc (.cells #[.bool b, .int .i64 a1, .int .i64 a2, .int .i64 a3, .int .i64 a4, .int .i64 a5, .int .i64 a6, .int .i64 a7] 48)).cell? ⟨X, 2, none⟩ = some (.int .i64 l.used) := HX5.out.1 2 (by omega)
    have x3 : (w4.alloc (.cells #[.bool b, .int .i64 a1, .int .i64 a2, .int .i64 a3, .int .i64 a4, .int .i64 a5, .int .i64 a6, .int .i64 a7] 48)).cell? ⟨X, 3, none⟩ = some (.int .i64 l.res.no) := HX5.out.1 3 (by omega)
    have x4 : (w4.alloc (.cells #[.bool b, .int .i64 a1, .int .i64 a2, .int .i64 a3, .int .i64 a4, .int .i64 a5, .int .i64 a6, .int .i64 a7] 48)).cell? ⟨X, 4, none⟩ = some (.int .i64 l.res.kind) := HX5.out.1 4 (by omega)
    have x5 : (w4.alloc (.cells #[.bool b, .int .i64 a1, .int .i64 a2, .int .i64 a3, .int .i64 a4, .int .i64 a5, .int .i64 a6, .int .i64 a7] 48)).cell? ⟨X, 5, none⟩ = some (.int .i64 l.res.links) := HX5.out.1 5 (by omega)
    have x6 : (w4.alloc (.cells #[.bool b, .int .i64 a1, .int .i64 a2, .int .i64 a3, .int .i64 a4, .int .i64 a5, .int .i64 a6, .int .i64 a7] 48)).cell? ⟨X, 6, none⟩ = some (.int .i64 l.res.n) := HX5.out.1 6 (by omega)
    have x7 : (w4.alloc (.cells #[.bool b, .int .i64 a1, .int .i64 a2, .int .i64 a3, .int .i64 a4, .int .i64 a5, .int .i64 a6, .int .i64 a7] 48)).cell? ⟨X, 7, none⟩ = some (.slice NA nn nc) := HX5.out.1 7 (by omega)
    have x8 : (w4.alloc (.cells #[.bool b, .int .i64 a1, .int .i64 a2, .int .i64 a3, .int .i64 a4, .int .i64 a5, .int .i64 a6, .int .i64 a7] 48)).cell? ⟨X, 8, none⟩ = some (.slice BA bn bc) := HX5.out.1 8 (by omega)
    have hbeg' := hbeg
    unfold BeginsB at hbeg'
    rcases hbeg' with ⟨rfl, hm, hat⟩ | ⟨rfl, h3, hm, hu, hno⟩ | ⟨rfl, rfl, hlast⟩
    · rw [hm] at x0
      have q1 : ((l.at_ : Int) == a1) = true := beq_iff_eq.2 hat
      clear hbeg hat hm
      go_wp2_with (go_at_call 11; refine (HNM.out _ _).mono ?_; rintro e w9 ⟨rfl, rfl⟩)
      refine (HWK.out _).mono ?_
      rintro e w9 ⟨rfl, hb9⟩
      go_wp2_with fail
      go_ret
      exact ⟨rfl, HBE.out.trans (hb9.mono HBE.out.size)⟩
    · rw [hm] at x0
      have q1 : ((l.used : Int) == a2) = true := beq_iff_eq.2 hu
      have q2 : ((l.res.no : Int) == a3) = true := beq_iff_eq.2 hno
      have q3 : (a3 != 0) = true := by rw [bne_iff_ne]; exact h3
      clear hbeg hu hno h3 hm
      go_wp2_with (go_at_call 11; refine (HNM.out _ _).mono ?_; rintro e w9 ⟨rfl, rfl⟩)
      refine (HWK.out _).mono ?_
      rintro e w9 ⟨rfl, hb9⟩
      go_wp2_with fail
      go_ret
      exact ⟨rfl, HBE.out.trans (hb9.mono HBE.out.size)⟩
    · rcases hlast with hm | ⟨hm, hle⟩
      · rw [hm] at x0
        clear hbeg hm
        go_wp2_with (go_at_call 11; refine (HNM.out _ _).mono ?_; rintro e w9 ⟨rfl, rfl⟩)
        refine (HWK.out _).mono ?_
        rintro e w9 ⟨rfl, hb9⟩
        go_wp2_with fail
        go_ret
        exact ⟨rfl, HBE.out.trans (hb9.mono HBE.out.size)⟩
      · rw [hm] at x0
        have q1 : decide (a2 ≤ (l.used : Int)) = true := decide_eq_true hle
        clear hbeg hm hle
        go_wp2_with (go_at_call 11; refine (HNM.out _ _).mono ?_; rintro e w9 ⟨rfl, rfl⟩)
        refine (HWK.out _).mono ?_
        rintro e w9 ⟨rfl, hb9⟩
        go_wp2_with fail
        go_ret
        exact ⟨rfl, HBE.out.trans (hb9.mono HBE.out.size)⟩
set_option maxRecDepth 400000 in
set_option maxHeartbeats 2000000 in
theorem lookBegins_out (k : Int) (p d : ByteArray) (a n : Int) (A : Option Addr) (m c : Nat) (F : Option Addr) (nf cf : Nat) (W : World) (h : ¬ (p.size ≤ 200 ∧ d.size ≤ 200 ∧ m ≤ 500) ∨ 200 < nf) :
    Calls Tryz.prog 5 #[opV k p d a n A m c, .slice F nf cf] W fun e W' => e = .returned (.bool true) ∧ Below W.heap.size W W' := by
  obtain ⟨W0, hW0⟩ : ∃ W0, W.alloc (.cells #[.int .i64 k, .string p, .string d, .int .i64 a, .int .i64 n, .slice A m c] 28) = W0 := ⟨_, rfl⟩
  have hb0 : Below W.heap.size W W0 := by rw [← hW0]; exact (Below.refl _ _).alloc (Nat.le_refl _) _
  have hs0 : W0.heap.size = W.heap.size + 1 := by rw [← hW0]; simp
  have hfw := few22_any k p d a n A m c W0
  have H : Hid (decide (p.size ≤ 200 ∧ d.size ≤ 200 ∧ m ≤ 500) = false ∨ (decide (p.size ≤ 200 ∧ d.size ≤ 200 ∧ m ≤ 500) = true ∧ decide ((200 : Int) < (nf : Int)) = true)) := by
    rw [Hid]
    by_cases h1 : p.size ≤ 200 ∧ d.size ≤ 200 ∧ m ≤ 500
    · exact .inr ⟨decide_eq_true h1, decide_eq_true (by omega)⟩
    · exact .inl (decide_eq_false h1)
  clear h
  generalize decide (p.size ≤ 200 ∧ d.size ≤ 200 ∧ m ≤ 500) = fb at *
  unfold opV at hfw ⊢
  have HFW := Lib.hid hfw
  have HB0 := Lib.hid hb0
  have HW0 := Lib.hid hW0
  have HK := Lib.hid works22_any
  clear hfw hb0 hW0
  rcases H.out with rfl | ⟨rfl, h2⟩
  all_goals
    go_enter Tryz.func5, Tryz.ntmps5
    go_wp2_with (go_at_call 12; rw [HW0.out]; refine HFW.out.mono ?_; rintro e w1 ⟨rfl, hb1⟩)
    refine (HK.out _).mono ?_
    rintro e w2 ⟨rfl, hb2⟩
    go_wp2_with fail
    go_ret
    exact ⟨rfl, HB0.out.trans ((hb1.trans (hb2.mono hb1.size)).mono (by omega))⟩
theorem lookBegins_any (k : Int) (p d : ByteArray) (a n : Int) (A : Option Addr) (m c : Nat) (bs : List UInt8) (fed : List Nat) (F : Option Addr) (nf cf : Nat) (W : World)
    (hk : -9223372036854775808 ≤ k ∧ k < 9223372036854775808) (ha : a < 9223372036854775808) (hn : n < 9223372036854775808) (hl : bs.length = m) (hmc : m ≤ c) (hc : c ≤ maxLen) (hrow : RowAt W A (bs.map encB))
    (hfl : fed.length = nf) (_ : nf ≤ cf) (_ : cf ≤ maxLen) (hxf : ∀ x ∈ fed, x < 18446744073709551616) (hrF : RowAt W F (fed.map encW)) :
    Calls Tryz.prog 5 #[.agg #[.int .i64 k, .string p, .string d, .int .i64 a, .int .i64 n, .slice A m c], .slice F nf cf] W fun e W' => e = .returned (.bool true) ∧ Below W.heap.size W W' := by
  by_cases ho : ¬ (p.size ≤ 200 ∧ d.size ≤ 200 ∧ m ≤ 500) ∨ 200 < nf
  · exact lookBegins_out k p d a n A m c F nf cf W ho
  · have h1 : p.size ≤ 200 ∧ d.size ≤ 200 ∧ m ≤ 500 := Decidable.byContradiction fun h => ho (.inl h)
    have h2 : nf ≤ 200 := by omega
    have hA : ∀ W', Below W.heap.size W W' → Calls Tryz.prog 8 #[opV k p d a n A m c, .slice F nf cf] W' (LookR (lookN k (bytesOf p) (bytesOf d) a n m fed) W') := fun W' hb =>
      lookRun_any k p d a n A m c bs W' hk (by omega) (by omega) hl (by omega) (hrow.below hb) ha hn hfl hxf (hrF.below hb)
    by_cases hz : refuseN k (bytesOf p) (bytesOf d) a n m = 0
    · rw [lookN_fine hz (by omega)] at hA
      obtain ⟨b, a1, a2, a3, a4, a5, a6, a7, e1, hbeg⟩ := begins_of (readP (bytesOf p)).2 k a.toNat n.toNat fed
      have hrd : (readP (bytesOf p)).1 = 0 := by
        unfold refuseN at hz
        by_cases h5 : k < 1 ∨ 3 < k
        · rw [if_pos h5] at hz; cases hz
        · rw [if_neg h5] at hz
          unfold checkN at hz
          rw [if_neg (by omega)] at hz
          by_cases h6 : (readP (bytesOf p)).1 = 0
          · exact h6
          · rw [if_pos h6] at hz; exact absurd hz h6
      refine lookBegins_in k p d a n A m c F nf cf _ 0 b a1 a2 a3 a4 a5 a6 a7 W h1 h2 (.inr ⟨rfl, hbeg⟩) hA fun _ W' hb => ?_
      have hw := run_any (cf := cf) p W' (by omega) hfl (by omega) hxf (hrF.below hb)
      rw [runP_fine (by omega) hrd, e1] at hw
      exact hw
    · rw [lookN_refused _ hz] at hA
      exact lookBegins_in k p d a n A m c F nf cf _ _ false 0 0 0 0 0 0 0 W h1 h2 (.inl hz) hA fun h => absurd h hz
end Go.Proofs.YtdpooagnbmpinaaGreatDoor
