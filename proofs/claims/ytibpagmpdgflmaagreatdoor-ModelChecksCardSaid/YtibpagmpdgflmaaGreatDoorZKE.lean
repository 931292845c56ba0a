/- Arguments that are structs of one-cell fields, opened; an operation. A result that came in, opened. Conditions: none. -/
import Derived.Test.YtibpagmpdgflmaaGreatDoorZKC
import Derived.Lib.SmallJoins
import Derived.Deep.Slices
import Derived.Deep.Fields
import Derived.ChangeSame
import Derived.Test.YtibpagmpdgflmaaGreatDoorZW1
namespace Go.Proofs.YtibpagmpdgflmaaGreatDoor
open Go.Joins Go.RowKit Go.WideShapes Go.ChangeShapes Go.ChangeMaps Go.Deep

section
variable {H : Type} {enc : TypeId × Value → H} {P : Program} {w : World} {base : Nat} {spare : Nat → Bool} {held : Bool}
/-- A struct by value: each field's reading. -/
theorem open_agg {r : Reach} {b0 : Nat} {t : TypeId} {fs : Array Field} {v : Value} {d : DataW H} {p : List MemPlace} (hs : P.underlying t = some (.struct fs)) (hone : oneCellFields P fs = true) (hC : P.cellsOf t = fs.size)
    (hv : Value.okWide P w r b0 t v) (h : DataW.Trod enc P w base spare held t v d p) :
    ∃ (cs : Array Value) (ys : List (DataW H × List MemPlace)) (n : Nat), v = .agg cs ∧ cs.size = fs.size ∧ ys.length = fs.size ∧ d = .agg (ys.map (·.1)) ∧ p = ys.flatMap (·.2) ∧
      ∀ (j : Nat) (f : Field), fs[j]? = some f → ∃ c y, cs[j]? = some c ∧ ys[j]? = some y ∧ DataW.trod enc P w base spare held n f.type [c] = some y := by
  obtain ⟨cs, rfl, hsz⟩ := okWide_struct hs hv
  obtain ⟨fuel, hf⟩ := h
  obtain ⟨xs, n, _, hx, _, hlen, hg⟩ := DataW.trod_struct hs hf
  simp only [Prod.mk.injEq] at hx
  refine ⟨cs, xs, n, rfl, hsz.trans hC, hlen, hx.1, hx.2, fun j f hj => ?_⟩
  obtain ⟨ho, hk⟩ := hone_of hone j f hj
  have hjl : j < fs.size := (Array.getElem?_eq_some_iff.1 hj).1
  have hjc : j < cs.size := by rw [hsz, hC]; exact hjl
  have h1 := hg j f hj
  rw [ho, hk] at h1
  have hv : cs[j]? = some cs[j] := Array.getElem?_eq_getElem hjc
  have hys : xs[j]? = some (xs[j]'(by omega)) := List.getElem?_eq_getElem (by omega)
  have hone' : ((Value.agg cs).cells.toList.drop j).take 1 = [cs[j]] := by
    show (cs.toList.drop j).take 1 = _
    rw [List.drop_eq_getElem_cons (by simpa using hjc)]
    rfl
  rw [hone', hys] at h1
  exact ⟨_, _, hv, hys, h1⟩
end
theorem bounds_u8 {n : Int} (h : (Lit.int .u8 n).wf = true) : 0 ≤ n ∧ n ≤ 255 := by
  simp only [Lit.wf, Bool.and_eq_true, decide_eq_true_eq] at h
  exact ⟨h.1, h.2⟩
theorem bounds_i64 {n : Int} (h : (Lit.int .i64 n).wf = true) : -9223372036854775808 ≤ n ∧ n < 9223372036854775808 := by
  simp only [Lit.wf, Bool.and_eq_true, decide_eq_true_eq] at h
  obtain ⟨h1, h2⟩ := h
  have a1 : (-9223372036854775808 : Int) ≤ n := h1
  have a2 : n ≤ 9223372036854775807 := h2
  omega
theorem Tryz.underBytes : Tryz.prog.underlying 25 = some (.slice 5) := by kernel_rfl
theorem Tryz.underByte : Tryz.prog.underlying 5 = some (.int .u8) := by kernel_rfl
theorem Tryz.cellsByte : Tryz.prog.cellsOf 5 = 1 := by kernel_rfl
theorem Tryz.underI : Tryz.prog.underlying 3 = some (.int .i64) := by kernel_rfl
theorem Tryz.underS : Tryz.prog.underlying 9 = some .string := by kernel_rfl
set_option maxRecDepth 100000 in
/-- What a slice of bytes reads as. -/
theorem open_bytes {H : Type} {enc : TypeId × Value → H} {W : World} {c0 : Value} {n0 : Nat} {y : DataW H × List MemPlace} (hf : DataW.trod enc Tryz.prog W 0 (fun _ => true) true n0 25 [c0] = some y) (hlt : ∀ x ∈ y.2, x.block < W.heap.size) :
    ∃ (A : Option Addr) (n c : Nat) (bs : List UInt8), c0 = .slice A n c ∧ bs.length = n ∧ n ≤ c ∧ c ≤ maxLen ∧ RowAt W A (bs.map encB) := by
  rcases open_ints Tryz.underBytes Tryz.underByte Tryz.cellsByte hf with ⟨hcs, hx⟩ | ⟨a, len, cap, zs, hcs, _, hl, hm, hz, hx, hcell, hws⟩
  · exact ⟨none, 0, 0, [], by simpa using hcs, rfl, Nat.le_refl _, by simp [maxLen], RowAt.nil⟩
  · simp only [if_true] at hz
    have hb : ∀ z ∈ zs, 0 ≤ z ∧ z ≤ 255 := fun z hz => bounds_u8 (hws z hz)
    refine ⟨some a, len, cap, (zs.take len).map fun z => UInt8.ofNat z.toNat, by simpa using hcs, by rw [List.length_map, List.length_take]; omega, hl, hm, fun hpos => ?_⟩
    rw [List.length_map, List.length_map, List.length_take] at hpos
    have hspot0 := hcell 0 (by omega)
    obtain ⟨b, off, spot⟩ := a
    have hspot : spot = none := by simpa [Addr.add] using World.cell?_spot hspot0
    subst hspot
    rw [hx] at hlt
    have hbW : b < W.heap.size := hlt (.cell b off) (MemPlace.mem_row.2 ⟨0, by omega, by simp⟩)
    refine ⟨b, off, rfl, hbW, fun k u hu => ?_⟩
    rw [List.getElem?_map, List.getElem?_map, List.getElem?_take] at hu
    by_cases hk : k < len
    · rw [if_pos hk, List.getElem?_eq_getElem (by omega)] at hu
      have h1 := hcell k (by omega)
      rw [add_plain] at h1
      rw [h1]
      have h2 := hb zs[k] (List.getElem_mem _)
      rw [← Option.some.inj hu, List.getD_eq_getElem?_getD, List.getElem?_eq_getElem (by omega)]
      show some (Value.int .u8 zs[k]) = some (.int .u8 (((UInt8.ofNat zs[k].toNat).toNat : Nat) : Int))
      have e : (UInt8.ofNat zs[k].toNat).toNat = zs[k].toNat := by
        rw [UInt8.toNat_ofNat']
        omega
      rw [e, Int.toNat_of_nonneg h2.1]
    · rw [if_neg hk] at hu; cases hu
noncomputable def opFs : Array Field := match Tryz.prog.underlying 32 with
  | some (.struct fs) => fs
  | _ => #[]
theorem opFs_is : Tryz.prog.underlying 32 = some (.struct opFs) := by kernel_rfl
theorem opFs_one : oneCellFields Tryz.prog opFs = true := by kernel_rfl
theorem opFs_cells : Tryz.prog.cellsOf 32 = opFs.size := by kernel_rfl
theorem opFs_size : opFs.size = 6 := by kernel_rfl
theorem opFs_types : (opFs.map (·.type)).toList = [30, 9, 9, 3, 3, 25] := by kernel_rfl
theorem underKind : Tryz.prog.underlying 30 = some (.int .i64) := by kernel_rfl
set_option maxRecDepth 100000 in
/-- What an operation reads as. -/
theorem open_op {H : Type} {enc : TypeId × Value → H} {W : World} {b0 : Nat} {v : Value} {d : DataW H} {p : List MemPlace} (hval : Value.okWide Tryz.prog W .any b0 32 v)
    (h : DataW.Trod enc Tryz.prog W 0 (fun _ => true) true 32 v d p) (hlt : ∀ x ∈ p, x.block < W.heap.size) :
    ∃ (k : Int) (s t : ByteArray) (a n : Int) (A : Option Addr) (m c : Nat) (bs : List UInt8), v = .agg #[.int .i64 k, .string s, .string t, .int .i64 a, .int .i64 n, .slice A m c] ∧
      (-9223372036854775808 ≤ k ∧ k < 9223372036854775808) ∧ a < 9223372036854775808 ∧ n < 9223372036854775808 ∧ bs.length = m ∧ m ≤ c ∧ c ≤ maxLen ∧ RowAt W A (bs.map encB) := by
  obtain ⟨cs, ys, nf, rfl, hsz, hyl, hd, rfl, hf⟩ := open_agg opFs_is opFs_one opFs_cells hval h
  have hl := opFs_size
  have hty : ∀ (j : Nat) (t : TypeId), ([30, 9, 9, 3, 3, 25] : List TypeId)[j]? = some t → ∃ c y, cs[j]? = some c ∧ ys[j]? = some y ∧ DataW.trod enc Tryz.prog W 0 (fun _ => true) true nf t [c] = some y := fun j t ht => by
    rw [← opFs_types, Array.getElem?_toList, Array.getElem?_map] at ht
    cases hj : opFs[j]? with
    | none => rw [hj] at ht; cases ht
    | some f =>
      rw [hj] at ht
      obtain ⟨c, y, h1, h2, h3⟩ := hf j f hj
      cases ht
      exact ⟨c, y, h1, h2, h3⟩
  obtain ⟨c0, y0, e0, f0, g0⟩ := hty 0 _ rfl
  obtain ⟨c1, y1, e1, f1, g1⟩ := hty 1 _ rfl
  obtain ⟨c2, y2, e2, f2, g2⟩ := hty 2 _ rfl
  obtain ⟨c3, y3, e3, f3, g3⟩ := hty 3 _ rfl
  obtain ⟨c4, y4, e4, f4, g4⟩ := hty 4 _ rfl
  obtain ⟨c5, y5, e5, f5, g5⟩ := hty 5 _ rfl
  obtain ⟨k, hk1, hk2, hk3⟩ := DataW.trod_int underKind g0
  obtain ⟨s, hs1, hs2, hs3⟩ := DataW.trod_string Tryz.underS g1
  obtain ⟨t, ht1, ht2, ht3⟩ := DataW.trod_string Tryz.underS g2
  obtain ⟨a, ha1, ha2, ha3⟩ := DataW.trod_int Tryz.underI g3
  obtain ⟨n, hn1, hn2, hn3⟩ := DataW.trod_int Tryz.underI g4
  obtain ⟨A, m, c, bs, hb1, hb2, hb3, hb4, hb5⟩ := open_bytes g5 (fun x hx => hlt x (List.mem_flatMap.2 ⟨y5, List.mem_of_getElem? f5, hx⟩))
  refine ⟨k, s, t, a, n, A, m, c, bs, ?_, bounds_i64 hk3, (bounds_i64 ha3).2, (bounds_i64 hn3).2, hb2, hb3, hb4, hb5⟩
  congr 1
  refine Array.ext' ?_
  have hcl : cs.toList.length = 6 := by rw [Array.length_toList, hsz, hl]
  rw [← Array.getElem?_toList] at e0 e1 e2 e3 e4 e5
  match hc : cs.toList, hcl with
  | [x0, x1, x2, x3, x4, x5], _ =>
    rw [hc] at e0 e1 e2 e3 e4 e5
    simp only [List.getElem?_cons_zero, List.getElem?_cons_succ, Option.some.injEq] at e0 e1 e2 e3 e4 e5
    subst e0 e1 e2 e3 e4 e5
    simp only [List.cons.injEq, and_true] at hk1 hs1 ht1 ha1 hn1
    rw [hk1, hs1, ht1, ha1, hn1, hb1]
end Go.Proofs.YtibpagmpdgflmaaGreatDoor


namespace Go.Proofs.YtibpagmpdgflmaaGreatDoor
open Go.Joins Go.RowKit Go.WideShapes Go.ChangeShapes Go.ChangeMaps Go.Deep
set_option maxRecDepth 100000 in
/-- What a slice of texts in a struct reads as. -/
theorem open_strs {H : Type} {enc : TypeId × Value → H} {W : World} {c0 : Value} {n0 : Nat} {y : DataW H × List MemPlace} (hf : DataW.trod enc Tryz.prog W 0 (fun _ => true) true n0 24 [c0] = some y) (hlt : ∀ x ∈ y.2, x.block < W.heap.size) :
    ∃ (A : Option Addr) (n c : Nat) (xs : List ByteArray), c0 = .slice A n c ∧ xs.length = n ∧ n ≤ c ∧ c ≤ maxLen ∧ (∀ s ∈ xs, s.size ≤ maxLen) ∧ RowAt W A (xs.map .string) := by
  rcases open_strings Tryz.underlyingList Tryz.underS Tryz.cellsString hf with ⟨hcs, hx⟩ | ⟨a, len, cap, ss, hcs, _, hl, hm, hz, hx, hcell, hws⟩
  · exact ⟨none, 0, 0, [], by simpa using hcs, rfl, Nat.le_refl _, by simp [maxLen], by simp, RowAt.nil⟩
  · simp only [if_true] at hz
    refine ⟨some a, len, cap, ss.take len, by simpa using hcs, by rw [List.length_take]; omega, hl, hm, fun s hs => hws s (List.mem_of_mem_take hs), fun hpos => ?_⟩
    rw [List.length_map, List.length_take] at hpos
    have hspot0 := hcell 0 (by omega)
    obtain ⟨b, off, spot⟩ := a
    have hspot : spot = none := by simpa [Addr.add] using World.cell?_spot hspot0
    subst hspot
    rw [hx] at hlt
    have hbW : b < W.heap.size := hlt (.cell b off) (MemPlace.mem_row.2 ⟨0, by omega, by simp⟩)
    refine ⟨b, off, rfl, hbW, fun k u hu => ?_⟩
    rw [List.getElem?_map, List.getElem?_take] at hu
    by_cases hk : k < len
    · rw [if_pos hk, List.getElem?_eq_getElem (by omega)] at hu
      have h1 := hcell k (by omega)
      rw [add_plain] at h1
      rw [h1]
      rw [← Option.some.inj hu, List.getD_eq_getElem?_getD, List.getElem?_eq_getElem (by omega)]; rfl
    · rw [if_neg hk] at hu; cases hu
noncomputable def resFs : Array Field := match Tryz.prog.underlying 27 with
  | some (.struct fs) => fs
  | _ => #[]
theorem resFs_is : Tryz.prog.underlying 27 = some (.struct resFs) := by kernel_rfl
theorem resFs_one : oneCellFields Tryz.prog resFs = true := by kernel_rfl
theorem resFs_cells : Tryz.prog.cellsOf 27 = resFs.size := by kernel_rfl
theorem resFs_size : resFs.size = 6 := by kernel_rfl
theorem resFs_types : (resFs.map (·.type)).toList = [22, 23, 3, 3, 24, 25] := by kernel_rfl
theorem underErrno : Tryz.prog.underlying 22 = some (.int .i64) := by kernel_rfl
theorem underInode : Tryz.prog.underlying 23 = some (.int .i64) := by kernel_rfl
set_option maxRecDepth 100000 in
/-- What a result reads as. -/
theorem open_res {H : Type} {enc : TypeId × Value → H} {W : World} {b0 : Nat} {v : Value} {d : DataW H} {p : List MemPlace} (hval : Value.okWide Tryz.prog W .any b0 27 v)
    (h : DataW.Trod enc Tryz.prog W 0 (fun _ => true) true 27 v d p) (hlt : ∀ x ∈ p, x.block < W.heap.size) :
    ∃ (a0 a1 a2 a3 : Int) (NA : Option Addr) (nn nc : Nat) (xs : List ByteArray) (A : Option Addr) (m c : Nat) (bs : List UInt8), v = .agg #[.int .i64 a0, .int .i64 a1, .int .i64 a2, .int .i64 a3, .slice NA nn nc, .slice A m c] ∧
      (xs.length = nn ∧ nn ≤ nc ∧ nc ≤ maxLen ∧ (∀ s ∈ xs, s.size ≤ maxLen) ∧ RowAt W NA (xs.map .string)) ∧ bs.length = m ∧ m ≤ c ∧ c ≤ maxLen ∧ RowAt W A (bs.map encB) := by
  obtain ⟨cs, ys, nf, rfl, hsz, hyl, hd, rfl, hf⟩ := open_agg resFs_is resFs_one resFs_cells hval h
  have hl := resFs_size
  have hty : ∀ (j : Nat) (t : TypeId), ([22, 23, 3, 3, 24, 25] : List TypeId)[j]? = some t → ∃ c y, cs[j]? = some c ∧ ys[j]? = some y ∧ DataW.trod enc Tryz.prog W 0 (fun _ => true) true nf t [c] = some y := fun j t ht => by
    rw [← resFs_types, Array.getElem?_toList, Array.getElem?_map] at ht
    cases hj : resFs[j]? with
    | none => rw [hj] at ht; cases ht
    | some f =>
      rw [hj] at ht
      obtain ⟨c, y, h1, h2, h3⟩ := hf j f hj
      cases ht
      exact ⟨c, y, h1, h2, h3⟩
  obtain ⟨c0, y0, e0, f0, g0⟩ := hty 0 _ rfl
  obtain ⟨c1, y1, e1, f1, g1⟩ := hty 1 _ rfl
  obtain ⟨c2, y2, e2, f2, g2⟩ := hty 2 _ rfl
  obtain ⟨c3, y3, e3, f3, g3⟩ := hty 3 _ rfl
  obtain ⟨c4, y4, e4, f4, g4⟩ := hty 4 _ rfl
  obtain ⟨c5, y5, e5, f5, g5⟩ := hty 5 _ rfl
  obtain ⟨a0, ha0, _⟩ := DataW.trod_int underErrno g0
  obtain ⟨a1, ha1, _⟩ := DataW.trod_int underInode g1
  obtain ⟨a2, ha2, _⟩ := DataW.trod_int Tryz.underI g2
  obtain ⟨a3, ha3, _⟩ := DataW.trod_int Tryz.underI g3
  obtain ⟨NA, nn, nc, xs, hn1, hn2, hn3, hn4, hn5, hn6⟩ := open_strs g4 (fun x hx => hlt x (List.mem_flatMap.2 ⟨y4, List.mem_of_getElem? f4, hx⟩))
  obtain ⟨A, m, c, bs, hb1, hb2, hb3, hb4, hb5⟩ := open_bytes g5 (fun x hx => hlt x (List.mem_flatMap.2 ⟨y5, List.mem_of_getElem? f5, hx⟩))
  refine ⟨a0, a1, a2, a3, NA, nn, nc, xs, A, m, c, bs, ?_, ⟨hn2, hn3, hn4, hn5, hn6⟩, hb2, hb3, hb4, hb5⟩
  congr 1
  refine Array.ext' ?_
  have hcl : cs.toList.length = 6 := by rw [Array.length_toList, hsz, hl]
  rw [← Array.getElem?_toList] at e0 e1 e2 e3 e4 e5
  match hc : cs.toList, hcl with
  | [x0, x1, x2, x3, x4, x5], _ =>
    rw [hc] at e0 e1 e2 e3 e4 e5
    simp only [List.getElem?_cons_zero, List.getElem?_cons_succ, Option.some.injEq] at e0 e1 e2 e3 e4 e5
    subst e0 e1 e2 e3 e4 e5
    simp only [List.cons.injEq, and_true] at ha0 ha1 ha2 ha3
    rw [ha0, ha1, ha2, ha3, hn1, hb1]
end Go.Proofs.YtibpagmpdgflmaaGreatDoor
