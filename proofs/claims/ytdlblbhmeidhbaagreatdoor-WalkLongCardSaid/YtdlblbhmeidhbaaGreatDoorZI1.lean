/- The document's reader in memory, and the contract of its Load. Conditions: none. -/
import Derived.Test.YtdlblbhmeidhbaaGreatDoorZI0
import Derived.Test.YtdlblbhmeidhbaaGreatDoorZGX
namespace Go.Proofs.YtdlblbhmeidhbaaGreatDoor
open Go.RowKit

/-- What was asked for, and whether one more word is needed. -/
abbrev RSt := List Nat × Bool
def loadR (fed : List Nat) (p : Nat) (st : RSt) : Nat × RSt :=
  if st.2 then (0, st) else match fed[st.1.length]? with
    | some x => (x, (st.1 ++ [p], false))
    | none => (0, (st.1 ++ [p], true))
theorem loadR_more (fed : List Nat) (p : Nat) (l : List Nat) : loadR fed p (l, true) = (0, (l, true)) := rfl
theorem loadR_lt {fed : List Nat} (hx : ∀ x ∈ fed, x < 18446744073709551616) (p : Nat) (st : RSt) : (loadR fed p st).1 < 18446744073709551616 := by
  unfold loadR
  split
  · show 0 < _; omega
  · split
    · rename_i x h
      exact hx x (List.mem_of_getElem? h)
    · show 0 < _; omega
theorem loadR_len (fed : List Nat) (p : Nat) (st : RSt) : (loadR fed p st).2.1.length ≤ st.1.length + 1 := by
  unfold loadR
  split
  · simp
  · split <;> simp
/-- The document's reader in memory. -/
structure RfAt (R : Nat) (FA : Option Addr) (nf cf : Nat) (fed : List Nat) (st : RSt) (W : World) : Prop where
  rd : RdAt R FA nf cf fed st.1 W
  mo : W.cell? ⟨R, 2, none⟩ = some (.bool st.2)
  fz : W.frozen? ⟨R, 2, none⟩ = false
variable {R : Nat} {FA : Option Addr} {nf cf : Nat} {fed : List Nat} {st : RSt} {W W' : World}
theorem RfAt.below (h : RfAt R FA nf cf fed st W) (hb : Below W.heap.size W W') : RfAt R FA nf cf fed st W' :=
  ⟨h.rd.below hb, (hb.cell (p := ⟨R, 2, none⟩) h.rd.lt).trans h.mo, (hb.frozen (p := ⟨R, 2, none⟩) h.rd.lt).trans h.fz⟩
theorem RfAt.drew' (h : RfAt R FA nf cf fed st W) : RfAt R FA nf cf fed st { W with drawn := W.drawn + 1 } := h.below ((Below.refl _ W).drew)
theorem RfAt.set {B i : Nat} {v : Value} (h : RfAt R FA nf cf fed st W) (hf : FreeAt R W B) (hR : R ≤ B := by omega) : RfAt R FA nf cf fed st (W.setCell ⟨B, i, none⟩ v) :=
  ⟨h.rd.set hf hR, (World.cell?_setCell_other _ _ _ _ (by intro e; injection e with e; exact hf.1 e)).trans h.mo, (World.frozen?_setCell _ _ _ _).trans h.fz⟩
theorem RfAt.putTo {X : Nat} {f : Nat → Value} (h : RfAt R FA nf cf fed st W) (hf : FreeAt R W X) (hR : R ≤ X) : ∀ m, RfAt R FA nf cf fed st (putTo W X f m)
  | 0 => h
  | m + 1 => (RfAt.putTo h hf hR m).set (hf.putTo hf.1 m) hR
/-- Its mark is put. -/
theorem RfAt.mark (h : RfAt R FA nf cf fed st W) (m : Bool) : RfAt R FA nf cf fed (st.1, m) (W.setCell ⟨R, 2, none⟩ (.bool m)) := by
  obtain ⟨v, hv, ho⟩ := h.rd.atsv
  have hb : ∀ k, k ≠ R → (W.setCell ⟨R, 2, none⟩ (.bool m)).heap[k]? = W.heap[k]? := fun k hk => Below.heap_setCell W ⟨R, 2, none⟩ (.bool m) k hk
  have hc : ∀ i, i ≠ 2 → (W.setCell ⟨R, 2, none⟩ (.bool m)).cell? ⟨R, i, none⟩ = W.cell? ⟨R, i, none⟩ := fun i hi => World.cell?_setCell_other _ _ _ _ (by intro e; injection e with _ e; exact hi e.symm)
  refine ⟨⟨by simpa [World.setCell] using h.rd.lt, (hc 0 (by omega)).trans h.rd.fedc, h.rd.fedl, fun hn => ?_, h.rd.feda, ⟨v, (hc 1 (by omega)).trans hv, ho.kept (grown_set W ⟨R, 2, none⟩ _) (.inr fun e => ?_)⟩, (World.frozen?_setCell _ _ _ _).trans h.rd.frz⟩, World.cell?_setCell_same' _ _ _ (by rw [h.mo]; rfl), (World.frozen?_setCell _ _ _ _).trans h.fz⟩
  · obtain ⟨b, off, e, hb', hcl⟩ := h.rd.fedr hn
    have hbR := h.rd.feda (by rw [List.length_map] at hn; exact hn) b off e
    exact ⟨b, off, e, by simpa [World.setCell] using hb', fun k u hu => (World.cell?_of_block (a := ⟨b, off + k, none⟩) (hb b (by omega))).trans (hcl k u hu)⟩
  · have e' : v.ownBlock = some R := e
    have := (ho.lt R e').1
    omega
theorem RB.mark (R B : Nat) (W : World) (v : Value) : RB R B W (W.setCell ⟨R, 2, none⟩ v) :=
  ⟨rfl, rfl, rfl, by simp [World.setCell], fun b _ hf => ⟨Below.heap_setCell W ⟨R, 2, none⟩ v b hf.1, hf.1, fun u hu => hf.2 u (by rwa [World.cell?_setCell_other _ _ _ _ (by intro e; injection e with _ e; cases e)] at hu)⟩⟩
set_option maxRecDepth 100000 in
set_option maxHeartbeats 3000000 in
theorem loadR_any (p : Nat) (q : Int) (W : World) (hq : q = (p : Int)) (hl : st.1.length ≤ 100000) (hnf : nf ≤ 100000) (hx64 : ∀ x ∈ fed, x < 18446744073709551616) (h : RfAt R FA nf cf fed st W) :
    Calls Tryz.prog 52 #[.pointer (some ⟨R, 0, none⟩), .int .i64 q] W fun e W' => e = .returned (.int .u64 (loadR fed p st).1) ∧ RfAt R FA nf cf fed (loadR fed p st).2 W' ∧ RB R W.heap.size W W' := by
  subst hq
  obtain ⟨ats, mo⟩ := st
  cases mo
  · obtain ⟨i0, hi, hz0, hz1, hz2⟩ := info_parts Tryz.infoInt
    have hmo := h.mo
    have hfm := h.fz
    have HL : Hid (loadR fed p (ats, false) = match fed[ats.length]? with | some x => (x, (ats ++ [p], false)) | none => (0, (ats ++ [p], true))) := rfl
    obtain ⟨v, hv, hown⟩ := h.rd.atsv
    have hfr := h.rd.frz
    have hR := h.rd.lt
    have HRD := Lib.hid h.rd
    have HO := Lib.hid hown
    have HLT := Lib.hid hown.lt
    have HX := Lib.hid hx64
    obtain ⟨m, hm⟩ : ∃ m, ats.length = m := ⟨_, rfl⟩
    have HM := Lib.hid hm
    simp only at hl hmo hv hown HRD HO HLT
    rw [hm] at hl HO HL
    have H1 : Hid (∀ u ∈ [encI p], u.oneCell' = true) := fun u hu => by rw [List.mem_singleton.1 hu]; rfl
    clear h hown hx64 hm
    go_enter Tryz.func52, Tryz.ntmps52
    go_wp2_with (at_builtin; refine wpList_append_lies _ rfl (.tmp 13) (.tmp 15) 38 rfl (R + 1) 3 i0 (.int .i64 0) 1 8 Tryz.underlying38 hi hz0 hz1 hz2 rfl (by decide) v m (ats.map encI) rfl (HO.out.alloc _) ⟨W.heap.size, 0, none⟩ 1 1 [encI p] rfl rfl ?c0 H1.out (by decide) ?c1 ?c2 ?c3 (W.heap.size + 1) (by simp) ?_)
    case c0 => exact World.news_of_block (World.alloc_heap_new _ _)
    case c1 => unfold maxLen; omega
    case c2 => omega
    case c3 => simp; omega
    intro g cap w2 hown2 hg2 hcase hgl
    have hne : some R ≠ v.ownBlock := fun e => by have := (HLT.out R e.symm).1; omega
    have hW1 : Below W.heap.size W (W.alloc (.cells #[encI p] 3)) := (Below.refl _ _).alloc (Nat.le_refl _) _
    have hsz2 : W.heap.size + 1 ≤ w2.heap.size := by have := hg2.size; simp at this; exact this
    have hc1 : w2.cell? ⟨R, 1, none⟩ = some v := (hg2.cell_far ⟨R, 1, none⟩ (by simp; omega) hne).trans ((hW1.cell (p := ⟨R, 1, none⟩) hR).trans hv)
    have hf1 : w2.frozen? ⟨R, 1, none⟩ = false := (hg2.frozen_far ⟨R, 1, none⟩ (by simp; omega) hne).trans ((hW1.frozen (p := ⟨R, 1, none⟩) hR).trans hfr)
    have hf2 : w2.frozen? ⟨R, 2, none⟩ = false := (hg2.frozen_far ⟨R, 2, none⟩ (by simp; omega) hne).trans ((hW1.frozen (p := ⟨R, 2, none⟩) hR).trans hfm)
    obtain ⟨w3, hw3⟩ : ∃ w3, w2.setCell ⟨R, 1, none⟩ (.slice (some ⟨g, 0, none⟩) (m + 1) cap) = w3 := ⟨_, rfl⟩
    have hc0 : w3.cell? ⟨R, 0, none⟩ = some (.slice FA nf cf) := by
      rw [← hw3, World.cell?_setCell_other _ _ _ _ (by intro e; cases e)]
      exact (hg2.cell_far ⟨R, 0, none⟩ (by simp; omega) hne).trans ((hW1.cell (p := ⟨R, 0, none⟩) hR).trans HRD.out.fedc)
    have hc2 : w3.cell? ⟨R, 2, none⟩ = some (.bool false) := by
      rw [← hw3, World.cell?_setCell_other _ _ _ _ (by intro e; cases e)]
      exact (hg2.cell_far ⟨R, 2, none⟩ (by simp; omega) hne).trans ((hW1.cell (p := ⟨R, 2, none⟩) hR).trans hmo)
    have hf2' : w3.frozen? ⟨R, 2, none⟩ = false := by rw [← hw3]; exact (World.frozen?_setCell _ _ _ _).trans hf2
    have hgR : R + 1 ≤ g := (hown2.lt g rfl).1
    have hc1' : w3.cell? ⟨R, 1, none⟩ = some (.slice (some ⟨g, 0, none⟩) (m + 1) cap) := by rw [← hw3]; exact World.cell?_setCell_same' _ _ _ (by rw [hc1]; rfl)
    have hf1' : w3.frozen? ⟨R, 1, none⟩ = false := by rw [← hw3]; exact (World.frozen?_setCell _ _ _ _).trans hf1
    have HO3 : Hid (w3.ownsRow (R + 1) 3 1 (.slice (some ⟨g, 0, none⟩) (m + 1) cap) (m + 1) ((ats ++ [p]).map encI)) := by
      rw [Hid, ← hw3, List.map_append]
      exact hown2.kept (grown_set w2 ⟨R, 1, none⟩ _) (.inr (fun e => by injection e with e; have : g = R := e; omega))
    have hblk : ∀ k, k < W.heap.size → k ≠ R → v.ownBlock ≠ some k → w3.heap[k]? = W.heap[k]? := fun k hk h1 h2 => by
      rw [← hw3]
      exact (Below.heap_setCell _ _ _ k h1).trans ((hg2.block k (by simp; omega) (fun e => h2 e.symm)).trans (hW1.block k hk))
    have HB3 : Hid (RB R W.heap.size W w3) :=
      ⟨by rw [← hw3]; exact hg2.os, by rw [← hw3]; exact hg2.tape, by rw [← hw3]; exact hg2.output, by rw [← hw3]; simp [World.setCell]; omega, fun b hb hf => ⟨hblk b hb hf.1 (hf.2 v hv), hf.1, fun u hu e => by
        rw [hc1'] at hu
        cases hu
        have e : g = b := by simpa [Value.ownBlock] using e
        subst e
        rcases hcase with h | h
        · exact hf.2 v hv h
        · omega⟩⟩
    have hsz3 : W.heap.size ≤ w3.heap.size := HB3.out.size
    have HR3 : Hid (RdAt R FA nf cf fed (ats ++ [p]) w3) := by
      refine ⟨Nat.lt_of_lt_of_le hR hsz3, hc0, HRD.out.fedl, fun hn => ?_, HRD.out.feda, ⟨_, hc1', ?_⟩, hf1'⟩
      · obtain ⟨b, off, e, hb, hc⟩ := HRD.out.fedr hn
        have hbR := HRD.out.feda (by rw [List.length_map] at hn; exact hn) b off e
        exact ⟨b, off, e, Nat.lt_of_lt_of_le hb hsz3, fun k u hu => (World.cell?_of_block (w := W) (hblk b hb (by omega) (fun e => by have := (HLT.out b e).1; omega))).trans (hc k u hu)⟩
      · rw [List.length_append, HM.out]; exact HO3.out
    have HF3 : Hid (RfAt R FA nf cf fed (ats ++ [p], false) w3) := ⟨HR3.out, hc2, hf2'⟩
    clear hown2 hg2 hcase hgl hW1 hblk
    have h0m : (0 : Int) ≤ (m : Int) := Int.natCast_nonneg _
    by_cases hlt : m < nf
    · have hmf : m < fed.length := by rw [HRD.out.fedl]; exact hlt
      have HGE : Hid (loadR fed p (ats, false) = (fed[m], (ats ++ [p], false))) := by rw [Hid, HL.out, List.getElem?_eq_getElem hmf]
      obtain ⟨b, off, rfl, hbw, hcx⟩ := HR3.out.fedr.get (k := m) (u := encW fed[m]) (by rw [List.getElem?_map, List.getElem?_eq_getElem hmf]; rfl)
      generalize fed[m] = x at hcx HGE
      unfold encW at hcx
      have hgt : decide ((nf : Int) < (m : Int) + 1) = false := by simp; omega
      have hadd : IntKind.i64.wrap (m : Int) = (m : Int) := IntWalk.i64_in _ (by omega)
      have hmn : (m : Int) < (nf : Int) := by omega
      go_wp2_with fail
      refine box_region (by kernel_rfl) (by kernel_rfl) ?_
      iterate 11
        refine box_step (fun K hK => ?_)
        go_simp
        refine hK _ ?_
        clear hK K
      refine ⟨wpStill_nil ?_⟩
      go_wp2_with fail
      obtain ⟨wd, hwd⟩ : ∃ wd, w3.drew = wd := ⟨_, rfl⟩
      have hc0 : wd.cell? ⟨R, 0, none⟩ = some (.slice (some ⟨b, off, none⟩) nf cf) := hwd ▸ hc0
      have hc1' : wd.cell? ⟨R, 1, none⟩ = some (.slice (some ⟨g, 0, none⟩) (m + 1) cap) := hwd ▸ hc1'
      have hcx : wd.cell? ⟨b, off + m, none⟩ = some (.int .u64 x) := hwd ▸ hcx
      have HF4 : Hid (RfAt R (some ⟨b, off, none⟩) nf cf fed (ats ++ [p], false) wd) := hwd ▸ HF3.out.drew'
      have HB4 : Hid (RB R W.heap.size W wd) := hwd ▸ HB3.out.trans (RB.drew' _ _ _)
      rw [show ({ w3 with drawn := w3.drawn + 1 } : World) = wd from hwd]
      clear hwd
      refine box_region (by kernel_rfl) (by kernel_rfl) ?_
      iterate 13
        refine box_step (fun K hK => ?_)
        go_simp
        refine hK _ ?_
        clear hK K
      refine ⟨wpStill_nil ?_⟩
      go_wp2_with fail
      go_ret
      rw [HGE.out]
      exact ⟨rfl, HF4.out.drew', HB4.out.trans (RB.drew' _ _ _)⟩
    · have HGE : Hid (loadR fed p (ats, false) = (0, (ats ++ [p], true))) := by rw [Hid, HL.out, List.getElem?_eq_none (by rw [HRD.out.fedl]; omega)]
      have hgt : decide ((nf : Int) < (m : Int) + 1) = true := by simp; omega
      go_wp2_with fail
      refine box_region (by kernel_rfl) (by kernel_rfl) ?_
      iterate 11
        refine box_step (fun K hK => ?_)
        go_simp
        refine hK _ ?_
        clear hK K
      refine ⟨wpStill_nil ?_⟩
      go_wp2_with fail
      go_ret
      rw [HGE.out]
      exact ⟨rfl, HF3.out.drew'.mark true, HB3.out.trans ((RB.drew' _ _ _).trans (RB.mark _ _ _ _))⟩
  · have HF := Lib.hid h
    have hmo := h.mo
    have hfz := h.fz
    simp only at hmo
    clear h
    go_enter Tryz.func52, Tryz.ntmps52
    go_wp2_with fail
    go_ret
    exact ⟨rfl, HF.out, RB.refl _ _ _⟩
end Go.Proofs.YtdlblbhmeidhbaaGreatDoor
