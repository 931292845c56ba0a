/- The law WalkBegins as a call: plain facts, and the walk. Conditions: none. -/
import Derived.Test.YtdlblbhmeidhbaaGreatDoorZGZ
import Derived.Test.YtdlblbhmeidhbaaGreatDoorZP1
namespace Go.Proofs.YtdlblbhmeidhbaaGreatDoor
open Go.RowKit

theorem textP_size' {l : List (List UInt8)} (h16 : l.length ≤ 16) (hr : l.all rightB = true) : (textP l).length ≤ 657 := by
  have := joinL_length 47 l (fun x hx => right_len (List.all_eq_true.1 hr x hx))
  rw [textP, List.length_cons]; omega
/-- Split of a text that reads as names. -/
theorem walkL_append (fed : List Nat) (z : List UInt8) : ∀ (l : List (List UInt8)) (line : Nat) (n : Nat × Nat × Nat) (ats : List Nat), walkL fed (l ++ [z]) line n ats = (walkL fed l line n ats).bind fun t ats => walkL fed [z] t.1 t.2 ats
  | [], _, _, _ => rfl
  | s :: l, line, n, ats => by
    show walkL fed (s :: (l ++ [z])) line n ats = _
    unfold walkL
    by_cases h : n.1 = 2
    · rw [if_pos h, if_pos h, Res.bind_assoc]
      congr 1
      funext ln a
      rw [Res.bind_assoc]
      congr 1
      funext m a'
      exact walkL_append fed z l ln m a'
    · rw [if_neg h, if_neg h]
      rfl
theorem walkedP_append (fed : List Nat) (l : List (List UInt8)) (z : List UInt8) : walkedP fed (l ++ [z]) = (walkedP fed l).bind fun t ats => walkL fed [z] t.1 t.2 ats := by
  unfold walkedP
  rw [Res.bind_assoc]
  congr 1
  funext x a
  rw [Res.bind_assoc]
  congr 1
  funext ln a
  rw [Res.bind_assoc]
  congr 1
  funext n a
  exact walkL_append fed z l ln n a
/-- What comes of a walk, and of one that goes on. -/
def Begins (b c : Bool) (a1 a2 a3 a4 a5 a6 a7 c1 c2 c3 c4 c5 c6 c7 : Int) : Prop :=
  ((b = true ∨ (b = false ∧ a3 ≠ 0)) ∧ c = b ∧ c1 = a1 ∧ c2 = a2 ∧ c3 = a3 ∧ c4 = a4 ∧ c5 = a5 ∧ c6 = a6 ∧ c7 = a7) ∨
  (b = false ∧ a3 = 0 ∧ c = true) ∨ (b = false ∧ a3 = 0 ∧ c = false ∧ a2 ≤ c2)
theorem begins_of {s p : List UInt8} {z : List UInt8} {fed : List Nat} (h : fed.length ≤ 20000) (hp : (readP p).1 = 0) (hs : (readP s).1 = 0) (hz : (readP s).2 = (readP p).2 ++ [z]) :
    ∃ b c a1 a2 a3 a4 a5 a6 a7 c1 c2 c3 c4 c5 c6 c7, runP p fed = (cellsB b a1 a2 a3 a4 a5 a6 a7, 0) ∧ runP s fed = (cellsB c c1 c2 c3 c4 c5 c6 c7, 0) ∧ atsP p fed <+: atsP s fed ∧ Begins b c a1 a2 a3 a4 a5 a6 a7 c1 c2 c3 c4 c5 c6 c7 := by
  rw [runP_yes h hp, runP_yes h hs, atsP_yes h hp, atsP_yes h hs, hz, walkedP_append]
  cases hr : walkedP fed (readP p).2 with
  | val t l =>
    have hx := (Good.walkL [z] t.1 t.2).ext fed l
    change _ <+: (walkL fed [z] t.1 t.2 l).ats at hx
    cases hr' : walkL fed [z] t.1 t.2 l with
    | val t' l' =>
      rw [hr'] at hx
      refine ⟨_, _, _, _, _, _, _, _, _, _, _, _, _, _, _, _, rfl, by show (runF (walkL fed [z] t.1 t.2 l), _) = _; rw [hr']; rfl, ?_, .inr (.inr ⟨rfl, rfl, rfl, ?_⟩)⟩
      · show l <+: (walkL fed [z] t.1 t.2 l).ats
        rw [hr']; exact hx
      · have := hx.length_le
        exact Int.ofNat_le.2 this
    | stop o l' =>
      rw [hr'] at hx
      have hle := hx.length_le
      cases o with
      | err e =>
        refine ⟨_, _, _, _, _, _, _, _, _, _, _, _, _, _, _, _, rfl, by show (runF (walkL fed [z] t.1 t.2 l), _) = _; rw [hr']; rfl, ?_, .inr (.inr ⟨rfl, rfl, rfl, ?_⟩)⟩
        · show l <+: (walkL fed [z] t.1 t.2 l).ats
          rw [hr']; exact hx
        · exact Int.ofNat_le.2 hle
      | need q =>
        refine ⟨_, _, _, _, _, _, _, _, _, _, _, _, _, _, _, _, rfl, by show (runF (walkL fed [z] t.1 t.2 l), _) = _; rw [hr']; rfl, ?_, .inr (.inl ⟨rfl, rfl, rfl⟩)⟩
        show l <+: (walkL fed [z] t.1 t.2 l).ats
        rw [hr']; exact hx
  | stop o l =>
    cases o with
    | err e =>
      by_cases he : e = 0
      · subst he
        exact ⟨_, _, _, _, _, _, _, _, _, _, _, _, _, _, _, _, rfl, rfl, List.prefix_refl _, .inr (.inr ⟨rfl, rfl, rfl, Int.le_refl _⟩)⟩
      · exact ⟨_, _, _, _, _, _, _, _, _, _, _, _, _, _, _, _, rfl, rfl, List.prefix_refl _, .inl ⟨.inr ⟨rfl, by show (e : Int) ≠ 0; omega⟩, rfl, rfl, rfl, rfl, rfl, rfl, rfl, rfl⟩⟩
    | need q => exact ⟨_, _, _, _, _, _, _, _, _, _, _, _, _, _, _, _, rfl, rfl, List.prefix_refl _, .inl ⟨.inl rfl, rfl, rfl, rfl, rfl, rfl, rfl, rfl, rfl⟩⟩
set_option maxRecDepth 400000 in
set_option maxHeartbeats 2000000 in
theorem lbegins_out (s : ByteArray) (A : Option Addr) (n cA : Nat) (z : Int) (pa la : ByteArray) (W : World) (hp : s.size ≤ 300 → ∀ W, Calls Tryz.prog 14 #[.string s] W fun e W' => e = .returned (.tuple #[.string pa, .string la, .int .i64 z]) ∧ Below W.heap.size W W')
    (h : 300 < s.size ∨ 100 < n ∨ (s.size ≤ 300 ∧ n ≤ 100 ∧ z ≠ 0)) :
    Calls Tryz.prog 5 #[.string s, .slice A n cA] W fun e W' => e = .returned (.bool true) ∧ Below W.heap.size W W' := by
  have HK := Lib.hid works_any
  have HPA := Lib.hid hp
  have HS := Lib.hid (fun h1 : ¬ 300 < s.size => show s.size ≤ 300 by omega)
  have H : Hid (decide ((300 : Int) < (s.size : Int)) = true ∨ (decide ((300 : Int) < (s.size : Int)) = false ∧ decide ((100 : Int) < (n : Int)) = true) ∨ (decide ((300 : Int) < (s.size : Int)) = false ∧ decide ((100 : Int) < (n : Int)) = false ∧ (z != 0) = true)) := by
    rw [Hid]
    by_cases h1 : 300 < s.size
    · exact .inl (by simp; omega)
    · by_cases h2 : 100 < n
      · exact .inr (.inl ⟨by simp; omega, by simp; omega⟩)
      · exact .inr (.inr ⟨by simp; omega, by simp; omega, by rw [bne_iff_ne]; omega⟩)
  clear h hp
  rcases H.out with h | ⟨h, h'⟩ | ⟨h, h', h''⟩
  · go_enter Tryz.func5, Tryz.ntmps5
    go_wp2_with fail
    refine (HK.out _).mono ?_
    rintro e w1 ⟨rfl, hb1⟩
    go_wp2_with fail
    go_ret
    exact ⟨rfl, hb1⟩
  · go_enter Tryz.func5, Tryz.ntmps5
    go_wp2_with fail
    refine (HK.out _).mono ?_
    rintro e w1 ⟨rfl, hb1⟩
    go_wp2_with fail
    go_ret
    exact ⟨rfl, hb1⟩
  · have HPA := Lib.hid (HPA.out (HS.out (by simp at h; omega)))
    go_enter Tryz.func5, Tryz.ntmps5
    go_wp2_with fail
    refine (HPA.out _).mono ?_
    rintro e w1 ⟨rfl, hb1⟩
    have hs1 := hb1.size
    go_wp2_with (go_at_call 9; refine (num_any _ _).mono ?_; rintro e w9 ⟨rfl, hw9⟩; obtain rfl := hw9.symm)
    refine (HK.out _).mono ?_
    rintro e w2 ⟨rfl, hb2⟩
    go_wp2_with fail
    go_ret
    exact ⟨rfl, hb1.trans (hb2.mono hs1)⟩
set_option maxRecDepth 400000 in
set_option maxHeartbeats 3000000 in
theorem lbegins_yes (s pa la : ByteArray) (A : Option Addr) (fed xs ys : List Nat) (n cA nx ny : Nat) (b c : Bool) (a1 a2 a3 a4 a5 a6 a7 c1 c2 c3 c4 c5 c6 c7 : Int) (W : World) (hs : s.size ≤ 300) (hn1 : n ≤ 100)
    (hrA : RowAt W A (fed.map encW))
    (hp : ∀ W, Calls Tryz.prog 14 #[.string s] W fun e W' => e = .returned (.tuple #[.string pa, .string la, .int .i64 0]) ∧ Below W.heap.size W W')
    (hA : ∀ W, RowAt W A (fed.map encW) → Calls Tryz.prog 7 #[.string pa, .slice A n cA] W fun e W' => e = .returned (.tuple #[agg8 (cellsB b a1 a2 a3 a4 a5 a6 a7), .int .i64 0]) ∧ Below W.heap.size W W')
    (hB : ∀ W, RowAt W A (fed.map encW) → Calls Tryz.prog 7 #[.string s, .slice A n cA] W fun e W' => e = .returned (.tuple #[agg8 (cellsB c c1 c2 c3 c4 c5 c6 c7), .int .i64 0]) ∧ Below W.heap.size W W')
    (hX : ∀ W, RowAt W A (fed.map encW) → Calls Tryz.prog 13 #[.string pa, .slice A n cA, .int .i64 (300 : Nat)] W (LatsPost xs W))
    (hY : ∀ W, RowAt W A (fed.map encW) → Calls Tryz.prog 13 #[.string s, .slice A n cA, .int .i64 (300 : Nat)] W (LatsPost ys W))
    (hx : xs.length = nx) (hy : ys.length = ny) (hnx0 : 0 < nx) (hnx : nx ≤ 300) (hny : ny ≤ 300) (hpre : xs <+: ys) (hl : Begins b c a1 a2 a3 a4 a5 a6 a7 c1 c2 c3 c4 c5 c6 c7) :
    Calls Tryz.prog 5 #[.string s, .slice A n cA] W fun e W' => e = .returned (.bool true) ∧ Below W.heap.size W W' := by
  have HK := Lib.hid works_any
  have h300 : decide ((300 : Int) < (s.size : Int)) = false := by simp; omega
  have h100 : decide ((100 : Int) < (n : Int)) = false := by simp; omega
  have hxy : nx ≤ ny := by have := hpre.length_le; omega
  have hlt : decide ((ny : Int) < (nx : Int)) = false := by simp; omega
  have HNX := Lib.hid hx
  have HNY := Lib.hid hy
  have HP : Hid (ys.take nx = xs) := by rw [Hid, ← hx]; exact (List.prefix_iff_eq_take.1 hpre).symm
  unfold agg8 cellsB cellsW at hA hB
  have HPA := Lib.hid hp
  have HA := Lib.hid hA
  have HB := Lib.hid hB
  have HX := Lib.hid hX
  have HY := Lib.hid hY
  have HRA := Lib.hid hrA
  have HL := Lib.hid hl
  clear hrA hA hB hX hY hx hy hpre hl hp
  go_enter Tryz.func5, Tryz.ntmps5
  go_wp2_with fail
  refine (HPA.out _).mono ?_
  rintro e w0 ⟨rfl, hb0⟩
  have HB0 := Lib.hid hb0
  have hs0 := hb0.size
  have HRA0 := Lib.hid (HRA.out.below hb0)
  clear hb0
  go_wp2_with (go_at_call 9; refine (num_any _ _).mono ?_; rintro e w9 ⟨rfl, hw9⟩; obtain rfl := hw9.symm)
  refine (HA.out _ HRA0.out).mono ?_
  rintro e w1 ⟨rfl, hb1⟩
  have HB1 := Lib.hid (HB0.out.trans (hb1.mono hs0))
  have hs1 := HB1.out.size
  clear hb1
  have HCA := Lib.hid (cellsB_new w1 b a1 a2 a3 a4 a5 a6 a7 30)
  have HB2 := Lib.hid (HB1.out.alloc hs1 (.cells #[.bool b, .int .i64 a1, .int .i64 a2, .int .i64 a3, .int .i64 a4, .int .i64 a5, .int .i64 a6, .int .i64 a7] 30))
  have HRA2 := Lib.hid (HRA.out.below HB2.out)
  go_wp2_with fail
  refine (HB.out _ HRA2.out).mono ?_
  rintro e w5 ⟨rfl, hb5⟩
  have hs5 : w1.heap.size + 1 ≤ w5.heap.size := by have := hb5.size; simp at this; omega
  have HB5 := Lib.hid (HB2.out.trans (hb5.mono (by simp; omega)))
  have HCA5 := Lib.hid (HCA.out.below hb5 (by simp))
  clear hb5 HCA HB2 HRA2
  have HCB := Lib.hid (cellsB_new w5 c c1 c2 c3 c4 c5 c6 c7 30)
  have hb6 := (Below.refl w5.heap.size w5).alloc (Nat.le_refl _) (.cells #[.bool c, .int .i64 c1, .int .i64 c2, .int .i64 c3, .int .i64 c4, .int .i64 c5, .int .i64 c6, .int .i64 c7] 30)
  have HB6 := Lib.hid (HB5.out.trans (hb6.mono (by omega)))
  have HCA6 := Lib.hid (HCA5.out.below hb6 (by omega))
  have HRA6 := Lib.hid (HRA.out.below HB6.out)
  clear hb6
  go_wp2_with fail
  refine (HX.out _ HRA6.out).mono ?_
  rintro e w6 ⟨X, kx, rfl, hxo, hkx, hkx', hb6⟩
  rw [HNX.out] at hxo hkx ⊢
  have hs6 : w5.heap.size + 1 ≤ w6.heap.size := by have := hb6.size; simp at this; omega
  have HCB7 := Lib.hid (HCB.out.below hb6 (by simp))
  have HCA7 := Lib.hid (HCA6.out.below hb6 (by simp; omega))
  have HB7 := Lib.hid (HB6.out.trans (hb6.mono (by simp; omega)))
  have HX7 := Lib.hid (row_of_own hxo)
  have HRA7 := Lib.hid (HRA.out.below HB7.out)
  clear hb6 hxo HCB HCA6 HB6 HRA6
  go_wp2_with fail
  refine (HY.out _ HRA7.out).mono ?_
  rintro e w7 ⟨Y, ky, rfl, hyo, hky, hky', hb7⟩
  rw [HNY.out] at hyo hky ⊢
  have hs7 : w5.heap.size + 1 ≤ w7.heap.size := by have := hb7.size; omega
  have HCB8 := Lib.hid (HCB7.out.below hb7 (by omega))
  have HCA8 := Lib.hid (HCA7.out.below hb7 (by omega))
  have HB8 := Lib.hid (HB7.out.trans (hb7.mono (by omega)))
  have HX8 := Lib.hid (HX7.out.below hb7)
  have HY8 := Lib.hid (row_of_own hyo)
  clear hb7 hyo HCB7 HCA7 HB7 HX7 HRA7
  obtain ⟨by_, oy, rfl, hby, _⟩ := HY8.out (by rw [List.length_map, HNY.out]; omega)
  obtain ⟨bx, ox, rfl, hbx, _⟩ := HX8.out (by rw [List.length_map, HNX.out]; omega)
  go_wp2_with (go_at_call 9; refine (num_any _ _).mono ?_; rintro e w9 ⟨rfl, hw9⟩; obtain rfl := hw9.symm)
  have HI : Hid (Calls Tryz.prog 12 #[.slice (some ⟨by_, oy, none⟩) nx ky, .slice (some ⟨bx, ox, none⟩) nx kx] w7 fun e W' => e = .returned (.bool true) ∧ Below w7.heap.size w7 W') := by
    have h := ints_any (ys.take nx) xs (some ⟨by_, oy, none⟩) (some ⟨bx, ox, none⟩) nx nx ky kx w7 (by rw [List.length_take, HNY.out]; omega) HNX.out (by omega) (by omega) (by omega) (by omega) (by rw [List.map_take]; exact HY8.out.take nx) HX8.out
    rw [show decide (ys.take nx = xs) = true from decide_eq_true HP.out] at h
    exact h
  refine HI.out.mono ?_
  rintro e w8 ⟨rfl, hb9⟩
  have hs8 : w5.heap.size + 1 ≤ w8.heap.size := by have := hb9.size; omega
  have HCB9 := Lib.hid (HCB8.out.below hb9 (by omega))
  have HCA9 := Lib.hid (HCA8.out.below hb9 (by omega))
  have HB9 := Lib.hid (HB8.out.trans (hb9.mono (by omega)))
  clear hb9 HCB8 HCA8 HB8 HX8 HY8 HI
  obtain ⟨p0, p1, p2, p3, p4, p5, p6, p7⟩ := HCA9.out.eight
  obtain ⟨q0, q1, q2, q3, q4, q5, q6, q7⟩ := HCB9.out.eight
  rcases HL.out with ⟨r0, r1, r2, r3, r4, r5, r6, r7, r8⟩ | ⟨r0, r1, r2⟩ | ⟨r0, r1, r2, r3⟩
  · have e1 : (c1 == a1) = true := beq_iff_eq.2 r2
    have e2 : (c2 == a2) = true := beq_iff_eq.2 r3
    have e3 : (c3 == a3) = true := beq_iff_eq.2 r4
    have e4 : (c4 == a4) = true := beq_iff_eq.2 r5
    have e5 : (c5 == a5) = true := beq_iff_eq.2 r6
    have e6 : (c6 == a6) = true := beq_iff_eq.2 r7
    have e7 : (c7 == a7) = true := beq_iff_eq.2 r8
    clear r2 r3 r4 r5 r6 r7 r8
    rcases r0 with r0 | ⟨r0, r9⟩
    · rw [r0] at r1
      go_wp2_with (go_at_call 9; refine (num_any _ _).mono ?_; rintro e w9 ⟨rfl, hw9⟩; obtain rfl := hw9.symm)
      refine (HK.out _).mono ?_
      rintro e w9 ⟨rfl, hb9⟩
      go_wp2_with fail
      go_ret
      exact ⟨rfl, HB9.out.trans (hb9.mono (by omega))⟩
    · rw [r0] at r1
      have e8 : (a3 != 0) = true := by rw [bne_iff_ne]; exact r9
      clear r9
      go_wp2_with (go_at_call 9; refine (num_any _ _).mono ?_; rintro e w9 ⟨rfl, hw9⟩; obtain rfl := hw9.symm)
      refine (HK.out _).mono ?_
      rintro e w9 ⟨rfl, hb9⟩
      go_wp2_with fail
      go_ret
      exact ⟨rfl, HB9.out.trans (hb9.mono (by omega))⟩
  · have e8 : (a3 != 0) = false := by rw [r1]; rfl
    clear r1
    go_wp2_with (go_at_call 9; refine (num_any _ _).mono ?_; rintro e w9 ⟨rfl, hw9⟩; obtain rfl := hw9.symm)
    refine (HK.out _).mono ?_
    rintro e w9 ⟨rfl, hb9⟩
    go_wp2_with fail
    go_ret
    exact ⟨rfl, HB9.out.trans (hb9.mono (by omega))⟩
  · have e8 : (a3 != 0) = false := by rw [r1]; rfl
    have e9 : decide (a2 ≤ c2) = true := decide_eq_true r3
    clear r1
    go_wp2_with (go_at_call 9; refine (num_any _ _).mono ?_; rintro e w9 ⟨rfl, hw9⟩; obtain rfl := hw9.symm)
    refine (HK.out _).mono ?_
    rintro e w9 ⟨rfl, hb9⟩
    go_wp2_with fail
    go_ret
    exact ⟨rfl, HB9.out.trans (hb9.mono (by omega))⟩
theorem lbegins_any (s : ByteArray) (fed : List Nat) (A : Option Addr) (n cA : Nat) (W : World) (hs : s.size < 140737488355328)
    (hn : fed.length = n) (hnc : n ≤ cA) (_ : cA ≤ maxLen) (hxf : ∀ x ∈ fed, x < 18446744073709551616) (hrA : RowAt W A (fed.map encW)) :
    Calls Tryz.prog 5 #[.string s, .slice A n cA] W fun e W' => e = .returned (.bool true) ∧ Below W.heap.size W W' := by
  have hmx : maxLen = 9223372036854775807 := rfl
  by_cases h1 : s.size ≤ 300
  · have hpar : ∀ W, Calls Tryz.prog 14 #[.string s] W fun e W' => e = .returned (.tuple #[.string (ofBytes (parentP (bytesOf s)).1), .string (ofBytes (parentP (bytesOf s)).2.1), .int .i64 (parentP (bytesOf s)).2.2]) ∧ Below W.heap.size W W' := fun W => parent_any s W (by omega)
    by_cases h2 : n ≤ 100
    · by_cases hz : (parentP (bytesOf s)).2.2 = 0
      · obtain ⟨hr1, hr2, hr3⟩ := split_parent hz
        rw [hz] at hpar
        have hps : (ofBytes (parentP (bytesOf s)).1).size < 4294967281 := by
          have : (ofBytes (parentP (bytesOf s)).1).size = (parentP (bytesOf s)).1.length := rfl
          rw [this, (parentP_ok hz).2.2.1]
          obtain ⟨h16, hall⟩ := readP_fine hr2
          have := textP_size' (l := (readP (bytesOf s)).2.take ((readP (bytesOf s)).2.length - 1)) (by rw [List.length_take]; omega) (by
            rw [List.all_eq_true] at hall ⊢
            exact fun x hx => hall x (List.mem_of_mem_take hx))
          omega
        obtain ⟨b, c, a1, a2, a3, a4, a5, a6, a7, c1, c2, c3, c4, c5, c6, c7, e1, e2, hp, hl⟩ := begins_of (fed := fed) (by omega) hr1 hr2 hr3
        have hbo : bytesOf (ofBytes (parentP (bytesOf s)).1) = (parentP (bytesOf s)).1 := bytesOf_ofBytes _
        have hnx : (atsP (parentP (bytesOf s)).1 fed).length ≤ 101 := by
          rw [atsP_yes (by omega) hr1]
          have := walked_most (readP (parentP (bytesOf s)).1).2 fed
          omega
        have hny : (atsP (bytesOf s) fed).length ≤ 101 := by
          rw [atsP_yes (by omega) hr2]
          have := walked_most (readP (bytesOf s)).2 fed
          omega
        have hn0 : 0 < (atsP (parentP (bytesOf s)).1 fed).length := by
          rw [atsP_yes (by omega) hr1]
          exact walked_pos _ _
        refine lbegins_yes s (ofBytes (parentP (bytesOf s)).1) (ofBytes (parentP (bytesOf s)).2.1) A fed (atsP (parentP (bytesOf s)).1 fed) (atsP (bytesOf s) fed) n cA _ _ b c a1 a2 a3 a4 a5 a6 a7 c1 c2 c3 c4 c5 c6 c7 W h1 h2 hrA hpar ?_ ?_ ?_ ?_ rfl rfl hn0 (by omega) (by omega) hp hl
        · intro W' hr
          have := run_any (cf := cA) (ofBytes (parentP (bytesOf s)).1) W' hps hn (by omega) hxf hr
          rwa [hbo, e1] at this
        · intro W' hr
          have := run_any (cf := cA) s W' (by omega) hn (by omega) hxf hr
          rwa [e2] at this
        · intro W' hr
          have := lats_any (cf := cA) (ofBytes (parentP (bytesOf s)).1) 300 W' hps (by omega) (by omega) hn (by omega) hxf hr (by rw [hbo]; omega)
          rwa [hbo, List.take_of_length_le (by omega)] at this
        · intro W' hr
          have := lats_any (cf := cA) s 300 W' (by omega) (by omega) (by omega) hn (by omega) hxf hr (by omega)
          rwa [List.take_of_length_le (by omega)] at this
      · exact lbegins_out s A n cA _ _ _ W (fun _ => hpar) (.inr (.inr ⟨h1, h2, hz⟩))
    · exact lbegins_out s A n cA _ _ _ W (fun _ => hpar) (.inr (.inl (by omega)))
  · exact lbegins_out s A n cA 0 s s W (fun h => absurd h h1) (.inl (by omega))
end Go.Proofs.YtdlblbhmeidhbaaGreatDoor
