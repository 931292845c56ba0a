/- Plain: texts in order, each once. No program in sight. Conditions: none. -/
import Derived.Test.YtgkmcooahjoagaaS1
import Derived.Lib.Bytealg
import Derived.Lib.SlicesCompact
import Derived.Shelf.SlSortCmp.Insertion
namespace Go.Proofs.Ytgkmcooahjoagaa
open Go Go.Sort

abbrev cmpB (a b : List UInt8) : Int := Lib.compareBytes a b
theorem u8_lt_irrefl (a : UInt8) : ¬ a < a := by simp
theorem cmp_self : ∀ a : List UInt8, Lib.compareBytes a a = 0
  | [] => rfl
  | a :: al => by rw [Lib.compareBytes, if_neg (u8_lt_irrefl a), if_neg (u8_lt_irrefl a)]; exact cmp_self al
theorem u8_tri (a b : UInt8) (h1 : ¬ a < b) (h2 : ¬ b < a) : a = b := by
  rw [UInt8.lt_iff_toNat_lt] at h1 h2
  exact UInt8.toNat_inj.1 (by omega)
theorem cmp_zero : ∀ a b : List UInt8, Lib.compareBytes a b = 0 → a = b
  | [], [], _ => rfl
  | [], _ :: _, h => by cases h
  | _ :: _, [], h => by cases h
  | a :: al, b :: bl, h => by
    rw [Lib.compareBytes] at h
    by_cases h1 : a < b
    · rw [if_pos h1] at h; cases h
    · rw [if_neg h1] at h
      by_cases h2 : b < a
      · rw [if_pos h2] at h; cases h
      · rw [if_neg h2] at h
        rw [u8_tri a b h1 h2, cmp_zero al bl h]
theorem cmp_swap : ∀ a b : List UInt8, Lib.compareBytes b a = - Lib.compareBytes a b
  | [], [] => rfl
  | [], _ :: _ => rfl
  | _ :: _, [] => rfl
  | a :: al, b :: bl => by
    rw [Lib.compareBytes, Lib.compareBytes]
    by_cases h1 : a < b
    · rw [if_neg (fun h2 => by rw [UInt8.lt_iff_toNat_lt] at h1 h2; omega), if_pos h1, if_pos h1]; rfl
    · by_cases h2 : b < a
      · rw [if_pos h2, if_neg h1, if_pos h2]
      · rw [if_neg h2, if_neg h1, if_neg h1, if_neg h2]; exact cmp_swap al bl
theorem cmp_range (a b : List UInt8) : Lib.compareBytes a b < 0 ∨ a = b ∨ Lib.compareBytes b a < 0 := by
  have h := cmp_swap a b
  rcases Int.lt_trichotomy (Lib.compareBytes a b) 0 with h1 | h1 | h1
  · exact .inl h1
  · exact .inr (.inl (cmp_zero a b h1))
  · exact .inr (.inr (by omega))
theorem cmp_trans : ∀ a b c : List UInt8, Lib.compareBytes a b < 0 → Lib.compareBytes b c < 0 → Lib.compareBytes a c < 0
  | [], [], _, h, _ => by simp [Lib.compareBytes] at h
  | [], _ :: _, [], _, h => by simp [Lib.compareBytes] at h
  | [], _ :: _, _ :: _, _, _ => by simp [Lib.compareBytes]
  | _ :: _, [], _, h, _ => by simp [Lib.compareBytes] at h
  | _ :: _, _ :: _, [], _, h => by simp [Lib.compareBytes] at h
  | a :: al, b :: bl, c :: cl, h1, h2 => by
    rw [Lib.compareBytes] at h1 h2 ⊢
    have e1 := @UInt8.lt_iff_toNat_lt a b
    have e2 := @UInt8.lt_iff_toNat_lt b a
    have e3 := @UInt8.lt_iff_toNat_lt b c
    have e4 := @UInt8.lt_iff_toNat_lt c b
    have e5 := @UInt8.lt_iff_toNat_lt a c
    have e6 := @UInt8.lt_iff_toNat_lt c a
    by_cases h3 : a < b
    · by_cases h4 : b < c
      · rw [if_pos (e5.2 (by have := e1.1 h3; have := e3.1 h4; omega))]; decide
      · rw [if_neg h4] at h2
        by_cases h5 : c < b
        · rw [if_pos h5] at h2; exact absurd h2 (by decide)
        · have := u8_tri b c h4 h5
          subst this
          rw [if_pos h3]; decide
    · rw [if_neg h3] at h1
      by_cases h4 : b < a
      · rw [if_pos h4] at h1; exact absurd h1 (by decide)
      · rw [if_neg h4] at h1
        have := u8_tri a b h3 h4
        subst this
        by_cases h5 : a < c
        · rw [if_pos h5]; decide
        · rw [if_neg h5] at h2 ⊢
          by_cases h6 : c < a
          · rw [if_pos h6] at h2; exact absurd h2 (by decide)
          · rw [if_neg h6] at h2 ⊢
            exact cmp_trans al bl cl h1 h2
theorem cmp_le_trans {a b c : List UInt8} (h1 : ¬ Lib.compareBytes b a < 0) (h2 : ¬ Lib.compareBytes c b < 0) : ¬ Lib.compareBytes c a < 0 := fun h => by
  rcases cmp_range a b with e | e | e
  · exact h2 (cmp_trans c a b h e)
  · subst e; exact h2 h
  · exact h1 e
theorem cmp_swo : SWO (ltOf cmpB) where
  irrefl x := by simp [ltOf, cmp_self]
  trans x y z h1 h2 := by
    simp only [ltOf, decide_eq_true_eq] at *
    exact cmp_trans x y z h1 h2
  ntrans x y z h1 h2 := by
    simp only [ltOf, decide_eq_false_iff_not] at *
    exact cmp_le_trans h2 h1

/-- Rising, each once. -/
def Rising (l : List (List UInt8)) : Prop := l.Pairwise fun a b => Lib.compareBytes a b < 0
theorem rising_one : ∀ {xs ys : List (List UInt8)}, Rising xs → Rising ys → (∀ x, x ∈ xs ↔ x ∈ ys) → xs = ys
  | [], [], _, _, _ => rfl
  | [], y :: ys, _, _, h => absurd ((h y).2 (by simp)) (by simp)
  | x :: xs, [], _, _, h => absurd ((h x).1 (by simp)) (by simp)
  | x :: xs, y :: ys, hx, hy, h => by
    obtain ⟨hx1, hx2⟩ := List.pairwise_cons.1 hx
    obtain ⟨hy1, hy2⟩ := List.pairwise_cons.1 hy
    have irr : ∀ a : List UInt8, ¬ Lib.compareBytes a a < 0 := fun a => by rw [cmp_self]; decide
    have hxy : x = y := by
      rcases List.mem_cons.1 ((h x).1 (by simp)) with e | e
      · exact e
      · rcases List.mem_cons.1 ((h y).2 (by simp)) with e' | e'
        · exact e'.symm
        · exact absurd (cmp_trans _ _ _ (hx1 y e') (hy1 x e)) (irr x)
    subst hxy
    rw [rising_one hx2 hy2 fun z => ⟨fun hz => ?_, fun hz => ?_⟩]
    · rcases List.mem_cons.1 ((h z).1 (by simp [hz])) with e | e
      · subst e; exact absurd (hx1 z hz) (irr z)
      · exact e
    · rcases List.mem_cons.1 ((h z).2 (by simp [hz])) with e | e
      · subst e; exact absurd (hy1 z hz) (irr z)
      · exact e

/-- What Compact leaves of what is in order. -/
theorem compact_rising {d : Array (List UInt8)} (hs : SortedIn (ltOf cmpB) 0 d.size d) : ∀ m, m ≤ d.size → Rising (Lib.compactUpTo d m) ∧ ∀ x, x ∈ Lib.compactUpTo d m ↔ ∃ i, i < m ∧ d[i]! = x
  | 0, _ => ⟨by simp [Lib.compactUpTo, Rising], fun x => by simp [Lib.compactUpTo]⟩
  | m + 1, hm => by
    obtain ⟨h1, h2⟩ := compact_rising hs m (by omega)
    have hle : ∀ i j, i < j → j < d.size → ¬ Lib.compareBytes d[j]! d[i]! < 0 := fun i j hij hj => by
      have := hs i j (Nat.zero_le _) hij hj
      simpa [ltOf] using this
    rw [Lib.compactUpTo_succ]
    cases hk : Lib.keeps d m
    · rw [if_neg (by simp), List.append_nil]
      have hk' : ¬ (m = 0 ∨ d[m]! ≠ d[m - 1]!) := by simpa [Lib.keeps] using hk
      have hm0 : m ≠ 0 := fun e => hk' (.inl e)
      have hme : d[m]! = d[m - 1]! := Classical.byContradiction fun e => hk' (.inr e)
      refine ⟨h1, fun x => (h2 x).trans ⟨fun ⟨i, hi, e⟩ => ⟨i, by omega, e⟩, fun ⟨i, hi, e⟩ => ?_⟩⟩
      by_cases him : i = m
      · subst him; exact ⟨i - 1, by omega, by rw [← hme]; exact e⟩
      · exact ⟨i, by omega, e⟩
    · rw [if_pos rfl]
      have hk' : m = 0 ∨ d[m]! ≠ d[m - 1]! := by simpa [Lib.keeps] using hk
      refine ⟨List.pairwise_append.2 ⟨h1, by simp, fun a ha b hb => ?_⟩, fun x => ?_⟩
      · rw [List.mem_singleton] at hb
        subst hb
        obtain ⟨i, hi, rfl⟩ := (h2 a).1 ha
        rcases cmp_range d[i]! d[m]! with e | e | e
        · exact e
        · exfalso
          rcases hk' with h0 | hne
          · omega
          · apply hne
            rcases cmp_range d[m]! d[m - 1]! with e' | e' | e'
            · exact absurd e' (hle (m - 1) m (by omega) (by omega))
            · exact e'
            · rw [← e] at e'
              by_cases hi1 : i = m - 1
              · subst hi1; rw [cmp_self] at e'; exact absurd e' (by decide)
              · exact absurd e' (hle i (m - 1) (by omega) (by omega))
        · exact absurd e (hle i m (by omega) (by omega))
      · rw [List.mem_append, h2 x, List.mem_singleton]
        constructor
        · rintro (⟨i, hi, e⟩ | e)
          · exact ⟨i, by omega, e⟩
          · exact ⟨m, by omega, e.symm⟩
        · rintro ⟨i, hi, e⟩
          by_cases him : i = m
          · subst him; exact .inr e.symm
          · exact .inl ⟨i, by omega, e⟩
theorem compact_of_perm {xs : List (List UInt8)} {d : Array (List UInt8)} (hp : PermIn 0 xs.length xs.toArray d) (hs : SortedIn (ltOf cmpB) 0 xs.length d) :
    d.size = xs.length ∧ Rising (Lib.compactUpTo d d.size) ∧ ∀ x, x ∈ Lib.compactUpTo d d.size ↔ x ∈ xs := by
  have hsz : d.size = xs.length := by have := hp.1; simpa using this
  rw [← hsz] at hs
  obtain ⟨h1, h2⟩ := compact_rising hs d.size (Nat.le_refl _)
  refine ⟨hsz, h1, fun x => (h2 x).trans ?_⟩
  have hperm : d.toList.Perm xs := by
    have := hp.2.2
    rw [← hsz, Array.extract_size] at this
    have e : (xs.toArray.extract 0 d.size) = xs.toArray := by rw [hsz]; simp
    rw [e] at this; simpa using this
  rw [← hperm.mem_iff, Array.mem_toList_iff, Array.mem_iff_getElem]
  constructor
  · rintro ⟨i, hi, e⟩
    exact ⟨i, hi, by rw [← e, getElem!_pos d i hi]⟩
  · rintro ⟨i, hi, e⟩
    exact ⟨i, hi, by rw [← e, getElem!_pos d i hi]⟩
end Go.Proofs.Ytgkmcooahjoagaa
