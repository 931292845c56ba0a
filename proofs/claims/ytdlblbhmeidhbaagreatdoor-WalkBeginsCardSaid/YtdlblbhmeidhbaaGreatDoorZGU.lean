/- The contract of Ats. Conditions: none. -/
import Derived.Test.YtdlblbhmeidhbaaGreatDoorZGT
import Derived.Test.YtdlblbhmeidhbaaGreatDoorShelf
import Derived.Test.YtdlblbhmeidhbaaGreatDoorZW2
namespace Go.Proofs.YtdlblbhmeidhbaaGreatDoor
open Go.RowKit Go.Shelf
attribute [local go_sem] Oper.semAt_some

theorem cloneI_any (l : List Nat) (v : Value) (base n : Nat) (W : World) (hn : n ≤ 100000) (h : W.ownsRow base 3 1 v n (l.map encI)) :
    Calls Tryz.prog 39 #[v] W fun e W' => ∃ A c, e = .returned (.slice A n c) ∧ n ≤ c ∧ c ≤ maxLen ∧ RowAt W' A (l.map encI) ∧ Below W.heap.size W W' := by
  have hl : l.length = n := by have := h.1; rw [List.length_map] at this; omega
  rcases h.2 with ⟨rfl, rfl⟩ | ⟨g, cap, cur, rfl, _, hg, hnc, hcap, hsz, htk⟩
  · refine (Tryz.slices_Clone_int_nil 0 0 W).mono ?_
    rintro e W' ⟨rfl, rfl⟩
    refine ⟨none, 0, rfl, Nat.le_refl _, by simp [maxLen], fun hp => ?_, Below.refl _ _⟩
    rw [List.length_map, hl] at hp
    omega
  · refine (Tryz.slices_Clone_int g 0 n cap (l.map fun (a : Nat) => (a : Int)) W (by rw [List.length_map]; omega) (by omega) (fun j hj => ?_)).mono ?_
    · rw [List.length_map] at hj
      have hz : (l.map encI)[j]? = some (encI l[j]) := by rw [List.getElem?_map, List.getElem?_eq_getElem hj]; rfl
      have := h.cellAt j (by omega)
      rw [Nat.zero_add, this, hz]
      rw [encI, List.getD_eq_getElem?_getD, List.getElem?_map, List.getElem?_eq_getElem hj]
      rfl
    · rintro e W' ⟨v', rfl, hown, _, hb⟩
      obtain ⟨A, c, rfl, h1, h2⟩ := ownsRow_slice hown
      have hx : ((l.map fun (a : Nat) => (a : Int)).take n).map (Value.int .i64) = l.map encI := by
        rw [List.take_of_length_le (by rw [List.length_map]; omega), List.map_map]
        rfl
      rw [hx] at hown
      exact ⟨A, c, rfl, h1, h2, row_of_own hown, hb⟩
theorem values_any (A : Option Addr) (n c : Nat) (W : World) :
    Calls Tryz.prog 38 #[.slice A n c] W fun e W' => e = .returned (.func (.func 57) #[] #[.pointer (some ⟨W.heap.size, 0, none⟩)]) ∧ W' = W.alloc (.cells #[.slice A n c] 38) := by
  go_enter Tryz.func38, Tryz.ntmps38
  go_wp2
  go_ret
  exact ⟨rfl, rfl⟩
/-- The addresses that were asked for. -/
def atsP (s : List UInt8) (fed : List Nat) : List Nat := if begunN s fed.length = 0 then (walkedP fed (readP s).2).ats else []
variable {FA : Option Addr} {nf cf : Nat} {fed : List Nat}
/-- What Ats leaves. -/
def AtsPost (l : List Nat) (W : World) (e : Ending) (W' : World) : Prop :=
  ∃ Vb A c, e = .returned (.func (.func 57) #[] #[.pointer (some ⟨Vb, 0, none⟩)]) ∧ W.heap.size ≤ Vb ∧ W'.cell? ⟨Vb, 0, none⟩ = some (.slice A l.length c) ∧ l.length ≤ c ∧ c ≤ maxLen ∧ RowAt W' A (l.map encI) ∧ Below W.heap.size W W'
set_option maxRecDepth 100000 in
set_option maxHeartbeats 8000000 in
theorem ats_no (s : ByteArray) (W : World) (hs : s.size < 4294967281) (hfl : fed.length = nf) (hnf : nf ≤ maxLen) (hrow : RowAt W FA (fed.map encW)) (hbg : begunN (bytesOf s) nf ≠ 0) :
    Calls Tryz.prog 22 #[.string s, .slice FA nf cf] W (AtsPost [] W) := by
  have HBG := Lib.hid (begun_any (FA := FA) (nf := nf) (cf := cf) s W hs hfl hnf hrow)
  have hbz : (begunN (bytesOf s) nf == 0) = false := by rw [beq_eq_false_iff_ne]; exact hbg
  generalize begunN (bytesOf s) nf = z at *
  generalize (readP (bytesOf s)).2 = nm at *
  clear hrow hfl hbg
  go_enter Tryz.func22, Tryz.ntmps22
  go_wp2_with fail
  refine HBG.out.mono ?_
  rintro e w2 ⟨R, NA, cn, rfl, hbg⟩
  have hs2 := hbg.below.size
  obtain ⟨w3, hw3⟩ : ∃ w3, (w2.alloc (.cells #[.pointer (some ⟨R, 0, none⟩)] 47)).alloc (.cells #[.slice NA nm.length cn] 48) = w3 := ⟨_, rfl⟩
  have hb3 : Below w2.heap.size w2 w3 := by rw [← hw3]; exact ((Below.refl _ _).alloc (Nat.le_refl _) _).alloc (by simp) _
  have c1 : w3.cell? ⟨w2.heap.size, 0, none⟩ = some (.pointer (some ⟨R, 0, none⟩)) := by
    rw [← hw3]
    exact (((Below.refl _ (w2.alloc (.cells #[.pointer (some ⟨R, 0, none⟩)] 47))).alloc (Nat.le_refl _) _).cell (p := ⟨w2.heap.size, 0, none⟩) (by simp)).trans (cell_new w2 _ _ 0 _ rfl)
  obtain ⟨v, k2, ho⟩ := (hbg.rd.below hb3).atsv
  have HB3 := Lib.hid (hbg.below.trans (hb3.mono hs2))
  have hs3 := hb3.size
  have HO := Lib.hid ho
  have HCL := Lib.hid (cloneI_any [] v (R + 1) 0 w3 (by omega) ho)
  clear hbg hb3 ho
  go_wp2_with (go_at_call 39; refine HCL.out.mono ?_; rintro e w5 ⟨A, c, rfl, h51, h52, h53, hb5⟩)
  refine (values_any A 0 c w5).mono ?_
  rintro e w6 ⟨rfl, rfl⟩
  go_wp2_with fail
  refine bodyPost_ret (v := .func (.func 57) #[] #[.pointer (some ⟨w5.heap.size, 0, none⟩)]) (by simp [results, Tryz.results22, go_sem]) rfl ?_
  have hs5 := hb5.size
  exact ⟨w5.heap.size, A, c, rfl, by omega, cell_new w5 _ _ 0 _ rfl, Nat.zero_le _, h52, h53.alloc _, (HB3.out.trans (hb5.mono (by omega))).alloc (by omega) _⟩
set_option maxRecDepth 100000 in
set_option maxHeartbeats 8000000 in
theorem ats_yes (s : ByteArray) (W : World) (hs : s.size < 4294967281) (hfl : fed.length = nf) (hnf : nf ≤ maxLen) (hx64 : ∀ x ∈ fed, x < 18446744073709551616) (hrow : RowAt W FA (fed.map encW)) (hbg : begunN (bytesOf s) nf = 0) (hal : (walkedP fed (readP (bytesOf s)).2).ats.length ≤ 100000) :
    Calls Tryz.prog 22 #[.string s, .slice FA nf cf] W (AtsPost (walkedP fed (readP (bytesOf s)).2).ats W) := by
  have hbga := begun_any (FA := FA) (nf := nf) (cf := cf) s W hs hfl hnf hrow
  rw [hbg] at hbga
  have HBG := Lib.hid hbga
  have HX := Lib.hid hx64
  have hq : nf ≤ 20000 ∧ (readP (bytesOf s)).2.length ≤ 100 ∧ ∀ x ∈ (readP (bytesOf s)).2, rightB x = true := by
    unfold begunN at hbg
    rcases readP_cases (bytesOf s) with ⟨h1, h2, h3⟩ | ⟨h1, h2⟩
    · rw [if_pos h1] at hbg
      refine ⟨?_, by have := h2.1; omega, List.all_eq_true.1 h3⟩
      by_cases hl : 20000 < nf
      · rw [if_pos hl] at hbg; cases hbg
      · omega
    · rw [if_neg (by omega)] at hbg
      omega
  obtain ⟨hn2, hn100, hright⟩ := hq
  generalize (readP (bytesOf s)).2 = nm at *
  clear hrow hbg hbga hx64
  go_enter Tryz.func22, Tryz.ntmps22
  go_wp2_with fail
  refine HBG.out.mono ?_
  rintro e w2 ⟨R, NA, cn, rfl, hbg⟩
  have hs2 := hbg.below.size
  obtain ⟨w3, hw3⟩ : ∃ w3, (w2.alloc (.cells #[.pointer (some ⟨R, 0, none⟩)] 47)).alloc (.cells #[.slice NA nm.length cn] 48) = w3 := ⟨_, rfl⟩
  have hb3 : Below w2.heap.size w2 w3 := by rw [← hw3]; exact ((Below.refl _ _).alloc (Nat.le_refl _) _).alloc (by simp) _
  have hs3 : w3.heap.size = w2.heap.size + 2 := by rw [← hw3]; simp
  have c1 : w3.cell? ⟨w2.heap.size, 0, none⟩ = some (.pointer (some ⟨R, 0, none⟩)) := by
    rw [← hw3]
    exact (((Below.refl _ (w2.alloc (.cells #[.pointer (some ⟨R, 0, none⟩)] 47))).alloc (Nat.le_refl _) _).cell (p := ⟨w2.heap.size, 0, none⟩) (by simp)).trans (cell_new w2 _ _ 0 _ rfl)
  have c2 : w3.cell? ⟨w2.heap.size + 1, 0, none⟩ = some (.slice NA nm.length cn) := by
    rw [← hw3]
    have := cell_new (w2.alloc (.cells #[.pointer (some ⟨R, 0, none⟩)] 47)) #[.slice NA nm.length cn] 48 0 _ rfl
    rwa [World.size_alloc] at this
  have hrd3 := hbg.rd.below hb3
  have hR := hbg.at_
  have hRl := hbg.lt
  have hrow3 := hbg.row.below hb3
  have hcap := hbg.cap
  have hna := hbg.na
  have HB3 := Lib.hid (hbg.below.trans (hb3.mono hs2))
  have hTD := toldI_any (R := R) (FA := FA) (nf := nf) (cf := cf) (fed := fed) w2.heap.size (w2.heap.size + 1) (walkedP fed nm) w3 hrd3 (fun W' hb' =>
    ats1_any w2.heap.size (w2.heap.size + 1) nm W' ⟨(hb'.cell (p := ⟨w2.heap.size, 0, none⟩) (by show w2.heap.size < _; omega)).trans c1, NA, cn, (hb'.cell (p := ⟨w2.heap.size + 1, 0, none⟩) (by show w2.heap.size + 1 < _; omega)).trans c2, hcap, hn100, hright, hrow3.below hb', hna⟩ hn2 HX.out (hrd3.below hb'))
  have HTD := Lib.hid hTD
  have HRD3 := Lib.hid hrd3
  have hF1 : FreeAt R w3 w2.heap.size := hbg.rd.free_new hb3 (Nat.le_refl _)
  clear hbg hb3 hrow3 hna hright hrd3 HBG c2 hcap hTD
  generalize hr : walkedP fed nm = r at *
  go_wp2_with fail
  refine HTD.out.mono ?_
  rintro e w4 ⟨rfl, h4, hb4⟩
  have hs4 := hb4.size
  have k1 := (hb4.cell (b := w2.heap.size) (by omega) hF1).trans c1
  obtain ⟨v, k2, ho⟩ := h4.atsv
  have HB4 := Lib.hid (HB3.out.trans (hb4.to_below HRD3.out (by omega) (by omega)))
  have HCL := Lib.hid (cloneI_any r.ats v (R + 1) r.ats.length w4 hal ho)
  clear h4 hb4 ho
  go_wp2_with (go_at_call 39; refine HCL.out.mono ?_; rintro e w5 ⟨A, c, rfl, h51, h52, h53, hb5⟩)
  refine (values_any A r.ats.length c w5).mono ?_
  rintro e w6 ⟨rfl, rfl⟩
  go_wp2_with fail
  refine bodyPost_ret (v := .func (.func 57) #[] #[.pointer (some ⟨w5.heap.size, 0, none⟩)]) (by simp [results, Tryz.results22, go_sem]) rfl ?_
  have hs5 := hb5.size
  have hB4s := HB4.out.size
  exact ⟨w5.heap.size, A, c, rfl, by omega, cell_new w5 _ _ 0 _ rfl, h51, h52, h53.alloc _, (HB4.out.trans (hb5.mono (by omega))).alloc (by omega) _⟩
theorem atsF_any (s : ByteArray) (W : World) (hs : s.size < 4294967281) (hfl : fed.length = nf) (hnf : nf ≤ maxLen) (hx64 : ∀ x ∈ fed, x < 18446744073709551616) (hrow : RowAt W FA (fed.map encW)) (hal : (atsP (bytesOf s) fed).length ≤ 100000) :
    Calls Tryz.prog 22 #[.string s, .slice FA nf cf] W (AtsPost (atsP (bytesOf s) fed) W) := by
  unfold atsP at hal ⊢
  rw [hfl] at hal ⊢
  by_cases h : begunN (bytesOf s) nf = 0
  · rw [if_pos h] at hal ⊢; exact ats_yes s W hs hfl hnf hx64 hrow h hal
  · rw [if_neg h]; exact ats_no s W hs hfl hnf hrow h
end Go.Proofs.YtdlblbhmeidhbaaGreatDoor
