/- Contracts of sums: with, add, each, More. Conditions: none. -/
import Derived.Test.YtdpooagnbmpinaaGreatDoorZV3
import Derived.Test.YtdpooagnbmpinaaGreatDoorZW5
import Derived.Laws.BitsAllLaws
namespace Go.Proofs.YtdpooagnbmpinaaGreatDoor
open Go.RowKit

/-- A sum with a word more. -/
def mixN (s x : Nat) : Nat := (s ^^^ x) * 1099511628211 % 18446744073709551616
theorem mixN_lt (s x : Nat) : mixN s x < 18446744073709551616 := by unfold mixN; omega
def moreN (s : Nat) (l : List Nat) : Nat := l.foldl mixN s
theorem moreN_lt : ∀ (l : List Nat) {s : Nat}, s < 18446744073709551616 → moreN s l < 18446744073709551616
  | [], s, hs => by unfold moreN; exact hs
  | x :: l, s, hs => by unfold moreN; rw [List.foldl_cons]; exact moreN_lt l (mixN_lt s x)
theorem moreN_take {s : Nat} {l : List Nat} {k : Nat} (h : k < l.length) : moreN s (l.take (k + 1)) = mixN (moreN s (l.take k)) l[k] := by
  unfold moreN
  rw [List.take_succ_eq_append_getElem h, List.foldl_append, List.foldl_cons, List.foldl_nil]
theorem mix_xor (s x : Nat) (hs : s < 18446744073709551616) (hx : x < 18446744073709551616) : IntKind.u64.wrap (bits .xor .u64 (s : Int) (x : Int) * 1099511628211) = ((mixN s x : Nat) : Int) := by
  rw [u64_xor_nat s x hs hx]
  unfold mixN
  generalize s ^^^ x = y
  simp only [IntKind.wrap, IntKind.bits, IntKind.signed]
  rw [Int.natCast_emod, Int.natCast_mul]
  simp only [Bool.false_and, Bool.false_eq_true, if_false]
  have e1 : ((1099511628211 : Nat) : Int) = 1099511628211 := rfl
  have e2 : ((18446744073709551616 : Nat) : Int) = 2 ^ 64 := by decide
  rw [e1, e2]
theorem with2_any (s x : Nat) (w : World) (hs : s < 18446744073709551616) (hx : x < 18446744073709551616) :
    Calls Tryz.prog 279 #[.int .u64 s, .int .u64 x] w fun e w' => e = .returned (.int .u64 (mixN s x : Nat)) ∧ w = w' := by
  have h1 := mix_xor s x hs hx
  have h2 := u64_xor_nat s x hs hx
  rw [h2] at h1
  generalize s ^^^ x = y at *
  go_enter Tryz.func279, Tryz.ntmps279
  go_wp2
  go_ret
  exact ⟨rfl, rfl⟩
theorem add2_any (q s x : Nat) (w : World) (hs : s < 18446744073709551616) (hx : x < 18446744073709551616) (hc : w.cell? ⟨q, 0, none⟩ = some (.int .u64 s)) (hf : w.frozen? ⟨q, 0, none⟩ = false) :
    Calls Tryz.prog 266 #[.pointer (some ⟨q, 0, none⟩), .int .u64 x] w fun e w' => e = .returned (.tuple #[]) ∧ w' = w.setCell ⟨q, 0, none⟩ (.int .u64 (mixN s x : Nat)) := by
  have HW := Lib.hid (with2_any s x w hs hx)
  generalize mixN s x = y at *
  go_enter Tryz.func266, Tryz.ntmps266
  go_wp2_with (go_at_call 279; refine HW.out.mono ?_; rintro e w' ⟨rfl, rfl⟩)
  go_end0
  exact ⟨rfl, rfl⟩
theorem bound_add (q s x : Nat) (w : World) (hs : s < 18446744073709551616) (hx : x < 18446744073709551616) (hc : w.cell? ⟨q, 0, none⟩ = some (.int .u64 s)) (hf : w.frozen? ⟨q, 0, none⟩ = false) :
    Calls Tryz.prog 266 #[.pointer (some ⟨q, 0, none⟩), .int .u64 x] w fun e w' => e = .returned (.tuple #[]) ∧ w'.cell? ⟨q, 0, none⟩ = some (.int .u64 (mixN s x : Nat)) ∧ w'.frozen? ⟨q, 0, none⟩ = false ∧ Below q w w' := by
  refine (add2_any q s x w hs hx hc hf).mono ?_
  rintro e w' ⟨rfl, rfl⟩
  exact ⟨rfl, World.cell?_setCell_same' _ _ _ (by rw [hc]; rfl), (World.frozen?_setCell _ _ _ _).trans hf, (Below.refl _ _).setCell (p := ⟨q, 0, none⟩) (Nat.le_refl _) _⟩
set_option maxRecDepth 100000 in
set_option maxHeartbeats 1000000 in
theorem each_any (xs : List Nat) (A : Option Addr) (n c q s : Nat) (w : World) (hn : xs.length = n) (hm : n ≤ 100000) (hx : ∀ x ∈ xs, x < 18446744073709551616) (hs : s < 18446744073709551616) (h : RowAt w A (xs.map encW)) (hA : ∀ b off, A = some ⟨b, off, none⟩ → b < q)
    (hc : w.cell? ⟨q, 0, none⟩ = some (.int .u64 s)) (hf : w.frozen? ⟨q, 0, none⟩ = false) :
    Calls Tryz.prog 265 #[.func (.func 266) #[.pointer (some ⟨q, 0, none⟩)] #[], .slice A n c] w fun e w' => e = .returned (.tuple #[]) ∧ w'.cell? ⟨q, 0, none⟩ = some (.int .u64 (moreN s xs : Nat)) ∧ Below q w w' := by
  have HN := Lib.hid hn
  have HR := Lib.hid h
  have HA := Lib.hid hA
  have HX := Lib.hid hx
  have HC := Lib.hid (And.intro hc hf)
  have HS := Lib.hid hs
  clear h hn hA hx hc hf hs
  go_enter Tryz.func265, Tryz.ntmps265
  go_wp2_with fail
  go_loopw [8] (fun i wr => ∃ k : Nat, k ≤ n ∧ i = .int .i64 k ∧ Hid (wr.cell? ⟨q, 0, none⟩ = some (.int .u64 (moreN s (xs.take k) : Nat)) ∧ wr.frozen? ⟨q, 0, none⟩ = false) ∧ Below q w wr) (fun i _ => n - (intOf i).toNat)
  case atStart => exact ⟨0, Nat.zero_le _, rfl, HC, Below.refl _ _⟩
  case round =>
    obtain ⟨k, hk, rfl, HC', hb⟩ := hrel
    by_cases hlt : k < n
    · have hkl : k < xs.length := by rw [HN.out]; exact hlt
      obtain ⟨b, off, rfl, hbw, hcb⟩ := HR.out.get (k := k) (u := encW xs[k]) (by rw [List.getElem?_map, List.getElem?_eq_getElem hkl]; rfl)
      have hbq := HA.out b off rfl
      have hcx : wr.cell? ⟨b, off + k, none⟩ = some (encW xs[k]) := (hb.cell (p := ⟨b, off + k, none⟩) hbq).trans hcb
      have hx64 := HX.out xs[k] (List.getElem_mem hkl)
      have HT := Lib.hid (moreN_take (s := s) hkl)
      have HL := Lib.hid (moreN_lt (xs.take k) HS.out)
      unfold encW at hcx
      generalize xs[k] = x at *
      generalize moreN s (xs.take k) = m at *
      have HCL := Lib.hid (bound_add q m x wr HL.out hx64 HC'.out.1 HC'.out.2)
      have HB := Lib.hid hb
      clear hcb hb
      go_wp2_with (go_at_call 266; refine HCL.out.mono ?_; rintro e w' ⟨rfl, hc1, hf1, hb1⟩; have HC1 := Lib.hid (And.intro hc1 hf1); clear hc1 hf1)
      exact ⟨⟨k + 1, by omega, by go_num, by rw [HT.out]; exact HC1, HB.out.trans hb1⟩, by simp [intOf]; omega⟩
    · obtain rfl : k = n := by omega
      have HE : Hid (xs.take k = xs) := List.take_of_length_le (by rw [HN.out]; exact Nat.le_refl _)
      go_wp2_with fail
      go_end0
      exact ⟨rfl, by have := HC'.out.1; rw [HE.out] at this; exact this, hb⟩
set_option maxRecDepth 100000 in
theorem more_any (xs : List Nat) (A : Option Addr) (n c s : Nat) (w : World) (hn : xs.length = n) (hm : n ≤ 4096) (hx : ∀ x ∈ xs, x < 18446744073709551616) (hs : s < 18446744073709551616) (h : RowAt w A (xs.map encW)) (hA : ∀ b off, A = some ⟨b, off, none⟩ → b < w.heap.size) :
    Calls Tryz.prog 241 #[.int .u64 s, .slice A n c] w fun e w' => e = .returned (.tuple #[.int .u64 (moreN s xs : Nat), .int .i64 0]) ∧ Below w.heap.size w w' := by
  have HE := Lib.hid (fun W hb hc hf => each_any xs A n c w.heap.size s W hn (by omega) hx hs (h.below hb) hA hc hf)
  have HX := Lib.hid hx
  have HA := Lib.hid hA
  have HR := Lib.hid h
  clear hx hA h hn
  go_enter Tryz.func241, Tryz.ntmps241
  go_wp2_with fail
  refine wp_scope_fwd 0 ?_
  go_wp2_with go_step3
  refine (HE.out _ ((Below.refl _ _).alloc (Nat.le_refl _) _) (by simp) (by simp)).mono ?_
  rintro e w1 ⟨rfl, hc1, hb1⟩
  have HB1 : Hid (Below w.heap.size w w1) := ((Below.refl _ w).alloc (Nat.le_refl _) _).trans hb1
  clear hb1
  go_wp2_with go_step3
  rw [fwd_ret]
  go_ret2
  exact ⟨rfl, HB1.out⟩
end Go.Proofs.YtdpooagnbmpinaaGreatDoor
