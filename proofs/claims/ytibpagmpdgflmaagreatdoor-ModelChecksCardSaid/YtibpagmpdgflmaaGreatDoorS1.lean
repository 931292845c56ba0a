/- Plain: texts cut at a byte. No program in sight. Conditions: none. -/
import Derived.Lib.SplitLaws
import Derived.Lib.IndexLaws
import Derived.Lib.IndexBytes
namespace Go.Proofs.YtibpagmpdgflmaaGreatDoor
open Go

/-- A text cut at every c. -/
def splitL (c : UInt8) : List UInt8 → List (List UInt8)
  | [] => [[]]
  | x :: xs => if x = c then [] :: splitL c xs else match splitL c xs with
    | [] => [[x]]
    | y :: ys => (x :: y) :: ys
theorem splitL_ne (c : UInt8) (l : List UInt8) : splitL c l ≠ [] := by
  cases l with
  | nil => simp [splitL]
  | cons x xs =>
    simp only [splitL]
    split
    · simp
    · split <;> simp
theorem splitL_cons_ne {c x : UInt8} (h : x ≠ c) {l : List UInt8} {y : List UInt8} {ys : List (List UInt8)} (e : splitL c l = y :: ys) : splitL c (x :: l) = (x :: y) :: ys := by
  simp [splitL, h, e]
theorem splitL_cons_eq (c : UInt8) (l : List UInt8) : splitL c (c :: l) = [] :: splitL c l := by
  simp [splitL]
theorem splitL_none {c : UInt8} : ∀ {l : List UInt8}, c ∉ l → splitL c l = [l]
  | [], _ => rfl
  | x :: xs, h => by
    have hx : x ≠ c := fun e => h (by simp [e])
    exact splitL_cons_ne hx (splitL_none (fun hm => h (by simp [hm])))
theorem splitL_append {c : UInt8} : ∀ {l : List UInt8} (r : List UInt8), c ∉ l → splitL c (l ++ c :: r) = l :: splitL c r
  | [], r, _ => by simp [splitL]
  | x :: xs, r, h => by
    have hx : x ≠ c := fun e => h (by simp [e])
    exact splitL_cons_ne hx (splitL_append r (fun hm => h (by simp [hm])))
theorem splitL_mem {c : UInt8} : ∀ {l : List UInt8}, ∀ y ∈ splitL c l, c ∉ y
  | [], y, h => by simp [splitL] at h; subst h; simp
  | x :: xs, y, h => by
    by_cases hx : x = c
    · subst hx
      rw [splitL_cons_eq] at h
      rcases List.mem_cons.1 h with h | h
      · subst h; simp
      · exact splitL_mem y h
    · cases e : splitL c xs with
      | nil => exact absurd e (splitL_ne c xs)
      | cons z zs =>
        rw [splitL_cons_ne hx e] at h
        rcases List.mem_cons.1 h with h | h
        · subst h
          have := splitL_mem (c := c) (l := xs) z (by rw [e]; simp)
          simp [Ne.symm hx, this]
        · exact splitL_mem y (by rw [e]; simp [h])
/-- Texts joined by c. -/
def joinL (c : UInt8) : List (List UInt8) → List UInt8
  | [] => []
  | [x] => x
  | x :: xs => x ++ c :: joinL c xs
theorem joinL_cons (c : UInt8) (x : List UInt8) {xs : List (List UInt8)} (h : xs ≠ []) : joinL c (x :: xs) = x ++ c :: joinL c xs := by
  cases xs with
  | nil => exact absurd rfl h
  | cons y ys => rfl
theorem joinL_split (c : UInt8) : ∀ l : List UInt8, joinL c (splitL c l) = l
  | [] => rfl
  | x :: xs => by
    by_cases hx : x = c
    · subst hx
      rw [splitL_cons_eq, joinL_cons _ _ (splitL_ne _ _), joinL_split]; rfl
    · cases e : splitL c xs with
      | nil => exact absurd e (splitL_ne c xs)
      | cons z zs =>
        have h := joinL_split c xs
        rw [e] at h
        rw [splitL_cons_ne hx e]
        cases zs with
        | nil => simp only [joinL] at h ⊢; rw [h]
        | cons y ys =>
          rw [joinL_cons _ _ (by simp)] at h ⊢
          rw [← h]; rfl
theorem split_joinL (c : UInt8) : ∀ {l : List (List UInt8)}, l ≠ [] → (∀ y ∈ l, c ∉ y) → splitL c (joinL c l) = l
  | [], h, _ => absurd rfl h
  | [x], _, h => splitL_none (h x (by simp))
  | x :: y :: ys, _, h => by
    rw [joinL_cons _ _ (by simp), splitL_append _ (h x (by simp)), split_joinL c (by simp) (fun z hz => h z (by simp [hz]))]
theorem intercalate_joinL (c : UInt8) : ∀ l : List (List UInt8), List.intercalate [c] l = joinL c l
  | [] => rfl
  | [x] => by simp [List.intercalate, joinL]
  | x :: y :: ys => by
    rw [joinL_cons _ _ (by simp), ← intercalate_joinL c (y :: ys)]
    simp [List.intercalate, List.intersperse]

def bytesOf (s : ByteArray) : List UInt8 := s.data.toList
def ofBytes (l : List UInt8) : ByteArray := ⟨l.toArray⟩
theorem bytesOf_ofBytes (l : List UInt8) : bytesOf (ofBytes l) = l := rfl
theorem ofBytes_bytesOf (s : ByteArray) : ofBytes (bytesOf s) = s := rfl
theorem bytesOf_inj {a b : ByteArray} (h : bytesOf a = bytesOf b) : a = b := by rw [← ofBytes_bytesOf a, h, ofBytes_bytesOf]
theorem size_bytesOf (s : ByteArray) : (bytesOf s).length = s.size := rfl
theorem bytesOf_extract (s : ByteArray) (i j : Nat) : bytesOf (s.extract i j) = ((bytesOf s).take j).drop i := by
  unfold bytesOf
  rw [ByteArray.data_extract, Array.toList_extract, List.extract_eq_take_drop, List.drop_take]

theorem splitB_eq (c : UInt8) : ∀ (k : Nat) (s : ByteArray), Lib.countB s ⟨#[c]⟩ = k → (Lib.splitB ⟨#[c]⟩ 0 k s).map bytesOf = splitL c (bytesOf s)
  | 0, s, hk => by
    have hno : c ∉ bytesOf s := by
      intro hm
      have h0 : Lib.count s.data.toList [c] = 0 := hk
      rw [Lib.count_one] at h0
      exact absurd (List.count_eq_zero.1 h0) (fun h => h hm)
    rw [Lib.splitB_zero, splitL_none hno]; rfl
  | k + 1, s, hk => by
    rcases Lib.indexB_cases s ⟨#[c]⟩ with hix | ⟨i, hix, hroom⟩
    · rw [Lib.countB_miss s _ hix] at hk; omega
    · have hi' : Lib.indexByte (bytesOf s) c = i := by rw [← Lib.index_one]; exact hix
      obtain ⟨h1, h2⟩ := Lib.indexByte_some hi'
      have hroom' : i + 1 ≤ s.size := hroom
      have hk' : Lib.countB (s.extract (i + 1) s.size) ⟨#[c]⟩ = k := by
        have := Lib.countB_hit s ⟨#[c]⟩ i (Nat.le_refl 1) hix
        have e : (⟨#[c]⟩ : ByteArray).size = 1 := rfl
        rw [e] at this; omega
      have e1 : (⟨#[c]⟩ : ByteArray).size = 1 := rfl
      rw [Lib.splitB_hit _ 0 k s i hix, e1, List.map_cons, splitB_eq c k _ hk', bytesOf_extract, bytesOf_extract, Nat.add_zero, List.drop_zero, ← size_bytesOf, List.take_length]
      have hsp : bytesOf s = (bytesOf s).take i ++ c :: (bytesOf s).drop (i + 1) := by
        have hlt : i < (bytesOf s).length := by rw [size_bytesOf]; omega
        have hg : (bytesOf s)[i] = c := by rw [List.getElem?_eq_getElem hlt] at h1; exact Option.some.inj h1
        rw [← hg, ← List.drop_eq_getElem_cons hlt, List.take_append_drop]
      have hn : c ∉ (bytesOf s).take i := by
        intro hm
        obtain ⟨j, hj, e⟩ := List.mem_iff_getElem.1 hm
        rw [List.length_take] at hj
        rw [List.getElem_take] at e
        exact h2 j (by omega) (by rw [List.getElem?_eq_getElem (by omega), e])
      conv => rhs; rw [hsp]
      rw [splitL_append _ hn]
theorem splitL_length {c : UInt8} : ∀ {l : List UInt8}, ∀ y ∈ splitL c l, y.length ≤ l.length
  | [], y, h => by simp [splitL] at h; subst h; simp
  | x :: xs, y, h => by
    by_cases hx : x = c
    · subst hx
      rw [splitL_cons_eq] at h
      rcases List.mem_cons.1 h with h | h
      · subst h; simp
      · have := splitL_length y h; simp; omega
    · cases e : splitL c xs with
      | nil => exact absurd e (splitL_ne c xs)
      | cons z zs =>
        rw [splitL_cons_ne hx e] at h
        rcases List.mem_cons.1 h with h | h
        · subst h
          have := splitL_length (c := c) (l := xs) z (by rw [e]; simp)
          simp; omega
        · have := splitL_length (c := c) (l := xs) y (by rw [e]; simp [h]); simp; omega
theorem splitL_many (c : UInt8) : ∀ l : List UInt8, (splitL c l).length ≤ l.length + 1
  | [] => by simp [splitL]
  | x :: xs => by
    have ih := splitL_many c xs
    by_cases hx : x = c
    · subst hx; rw [splitL_cons_eq]; simp; omega
    · cases e : splitL c xs with
      | nil => exact absurd e (splitL_ne c xs)
      | cons z zs => rw [splitL_cons_ne hx e]; rw [e] at ih; simp at ih ⊢; omega
end Go.Proofs.YtibpagmpdgflmaaGreatDoor
