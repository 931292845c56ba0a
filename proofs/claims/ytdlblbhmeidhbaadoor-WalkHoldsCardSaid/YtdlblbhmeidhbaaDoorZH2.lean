/- The law WalkHolds as a call, at whatever arguments. Conditions: none. -/
import Derived.Test.YtdlblbhmeidhbaaDoorZH1
namespace Go.Proofs.YtdlblbhmeidhbaaDoor
open Go.RowKit

set_option maxRecDepth 400000 in
set_option maxHeartbeats 2000000 in
theorem lholds_out (s : ByteArray) (A B : Option Addr) (n m cA cB : Nat) (W : World) (h : 300 < s.size ∨ 100 < n ∨ 100 < m) :
    Calls Tryd.prog 3 #[.string s, .slice A n cA, .slice B m cB] W fun e W' => e = .returned (.bool true) ∧ Below W.heap.size W W' := by
  have HK := Lib.hid works_any
  have H : Hid (decide ((300 : Int) < (s.size : Int)) = true ∨ (decide ((300 : Int) < (s.size : Int)) = false ∧ decide ((100 : Int) < (n : Int)) = true) ∨ (decide ((300 : Int) < (s.size : Int)) = false ∧ decide ((100 : Int) < (n : Int)) = false ∧ decide ((100 : Int) < (m : Int)) = true)) := by
    rw [Hid]
    by_cases h1 : 300 < s.size
    · exact .inl (by simp; omega)
    · by_cases h2 : 100 < n
      · exact .inr (.inl ⟨by simp; omega, by simp; omega⟩)
      · exact .inr (.inr ⟨by simp; omega, by simp; omega, by simp; omega⟩)
  clear h
  rcases H.out with h | ⟨h, h'⟩ | ⟨h, h', h''⟩
  all_goals
    go_enter Tryd.func3, Tryd.ntmps3
    go_wp2_with fail
    refine (HK.out _).mono ?_
    rintro e w1 ⟨rfl, hb1⟩
    go_wp2_with fail
    go_ret
    exact ⟨rfl, hb1⟩
theorem lholds_any (s : ByteArray) (fed : List Nat) (A : Option Addr) (n cA : Nat) (more : List Nat) (B : Option Addr) (m cB : Nat) (W : World) (_ : s.size < 140737488355328)
    (hn : fed.length = n) (hnc : n ≤ cA) (_ : cA ≤ maxLen) (hxf : ∀ x ∈ fed, x < 18446744073709551616) (hrA : RowAt W A (fed.map encW))
    (hm : more.length = m) (_ : m ≤ cB) (_ : cB ≤ maxLen) (hxm : ∀ x ∈ more, x < 18446744073709551616) (hrB : RowAt W B (more.map encW)) :
    Calls Tryd.prog 3 #[.string s, .slice A n cA, .slice B m cB] W fun e W' => e = .returned (.bool true) ∧ Below W.heap.size W W' := by
  by_cases ho : 300 < s.size ∨ 100 < n ∨ 100 < m
  · exact lholds_out s A B n m cA cB W ho
  · have h1 : s.size ≤ 300 := by omega
    have h2 : n ≤ 100 := by omega
    have h3 : m ≤ 100 := by omega
    by_cases hz : (readP (bytesOf s)).1 = 0
    · have hlen : (fed ++ more).length = n + m := by rw [List.length_append, hn, hm]
      obtain ⟨b, c, a1, a2, a3, a4, a5, a6, a7, c1, c2, c3, c4, c5, c6, c7, e1, e2, hp, hl⟩ := later_of (s := bytesOf s) (fed := fed) (more := more) (by omega) hz
      have hxa : ∀ x ∈ fed ++ more, x < 18446744073709551616 := fun x hx => (List.mem_append.1 hx).elim (hxf x) (hxm x)
      have hnx : (atsP (bytesOf s) fed).length ≤ 101 := by
        rw [atsP_yes (by omega) hz]
        have := walked_most (readP (bytesOf s)).2 fed
        omega
      have hny : (atsP (bytesOf s) (fed ++ more)).length ≤ 201 := by
        rw [atsP_yes (by omega) hz]
        have := walked_most (readP (bytesOf s)).2 (fed ++ more)
        omega
      have hn0 : 0 < (atsP (bytesOf s) fed).length := by
        rw [atsP_yes (by omega) hz]
        exact walked_pos _ _
      have hmx : maxLen = 9223372036854775807 := rfl
      refine lholds_yes s A B fed more (atsP (bytesOf s) fed) (atsP (bytesOf s) (fed ++ more)) n m cA cB _ _ b c a1 a2 a3 a4 a5 a6 a7 c1 c2 c3 c4 c5 c6 c7 W h1 hn hm h2 h3 hrA hrB ?_ ?_ ?_ ?_ rfl rfl hn0 (by omega) (by omega) hp (hn ▸ hl)
      · intro W' hr
        have := run_any (cf := cA) s W' (by omega) hn (by omega) hxf hr
        rwa [e1] at this
      · intro C k W' hr
        have := run_any (cf := k) s W' (by omega) hlen (by omega) hxa hr
        rwa [e2] at this
      · intro W' hr
        have := lats_any (cf := cA) s 300 W' (by omega) (by omega) (by omega) hn (by omega) hxf hr (by omega)
        rwa [List.take_of_length_le (by omega)] at this
      · intro C k W' hr
        have := lats_any (cf := k) s 300 W' (by omega) (by omega) (by omega) hlen (by omega) hxa hr (by omega)
        rwa [List.take_of_length_le (by omega)] at this
    · refine lholds_no s A B fed more n m cA cB (readP (bytesOf s)).1 W h1 hn hm h2 h3 hz hrA hrB ?_
      intro C k l j W' hlj hj hr
      have hmx : maxLen = 9223372036854775807 := rfl
      have hb : begunN (bytesOf s) j = (readP (bytesOf s)).1 := begunN_small _ (by omega)
      have := run_no (cf := k) s W' (by omega) hlj (by omega) hr (by rw [hb]; exact hz)
      rwa [hb] at this
end Go.Proofs.YtdlblbhmeidhbaaDoor
