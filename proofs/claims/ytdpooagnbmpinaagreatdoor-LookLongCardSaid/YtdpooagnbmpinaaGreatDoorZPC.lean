import Derived.Test.YtdpooagnbmpinaaGreatDoorZS1
import Derived.Lib.Bytealg
import Derived.Lib.SlicesCompact
import Derived.Shelf.SlSortCmp.Insertion
namespace Go.Proofs.YtdpooagnbmpinaaGreatDoor
section
open Go Go.Sort
abbrev cmpB (a b : List UInt8) : Int := Lib.compareBytes a b
theorem u8_lt_irrefl (a : UInt8) : ¬ a < a := by simp
theorem cmp_self : ∀ a : List UInt8,Lib.compareBytes a a = 0
 | [] => rfl
 | a :: al => by rw [Lib.compareBytes,if_neg (u8_lt_irrefl a),if_neg (u8_lt_irrefl a)];exact cmp_self al
theorem u8_tri (a b : UInt8) (h1 : ¬ a < b) (h2 : ¬ b < a) : a = b := by
 rw [UInt8.lt_iff_toNat_lt] at h1 h2
 exact UInt8.toNat_inj.1 (by omega)
theorem cmp_zero : ∀ a b : List UInt8,Lib.compareBytes a b = 0 -> a = b
 | [],[],_ => rfl
 | [],_ :: _,h => by cases h
 | _ :: _,[],h => by cases h
 | a :: al,b :: bl,h => by
  rw [Lib.compareBytes] at h
  by_cases h1 : a < b
  ·rw [if_pos h1] at h;cases h
  ·rw [if_neg h1] at h
   by_cases h2 : b < a
   ·rw [if_pos h2] at h;cases h
   ·rw [if_neg h2] at h
    rw [u8_tri a b h1 h2,cmp_zero al bl h]
theorem cmp_swap : ∀ a b : List UInt8,Lib.compareBytes b a = - Lib.compareBytes a b
 | [],[] => rfl
 | [],_ :: _ => rfl
 | _ :: _,[] => rfl
 | a :: al,b :: bl => by
  rw [Lib.compareBytes,Lib.compareBytes]
  by_cases h1 : a < b
  ·rw [if_neg (fun h2 => by rw [UInt8.lt_iff_toNat_lt] at h1 h2;omega),if_pos h1,if_pos h1];rfl
  ·by_cases h2 : b < a
   ·rw [if_pos h2,if_neg h1,if_pos h2]
   ·rw [if_neg h2,if_neg h1,if_neg h1,if_neg h2];exact cmp_swap al bl
theorem cmp_range (a b : List UInt8) : Lib.compareBytes a b < 0 ∨ a = b ∨ Lib.compareBytes b a < 0 := by
 have h := cmp_swap a b
 rcases Int.lt_trichotomy (Lib.compareBytes a b) 0 with h1 | h1 | h1
 ·exact .inl h1
 ·exact .inr (.inl (cmp_zero a b h1))
 ·exact .inr (.inr (by omega))
theorem cmp_trans : ∀ a b c : List UInt8,Lib.compareBytes a b < 0 -> Lib.compareBytes b c < 0 -> Lib.compareBytes a c < 0
 | [],[],_,h,_ => by simp [Lib.compareBytes] at h
 | [],_ :: _,[],_,h => by simp [Lib.compareBytes] at h
 | [],_ :: _,_ :: _,_,_ => by simp [Lib.compareBytes]
 | _ :: _,[],_,h,_ => by simp [Lib.compareBytes] at h
 | _ :: _,_ :: _,[],_,h => by simp [Lib.compareBytes] at h
 | a :: al,b :: bl,c :: cl,h1,h2 => by
  rw [Lib.compareBytes] at h1 h2 ⊢
  have e1 := @UInt8.lt_iff_toNat_lt a b
  have e2 := @UInt8.lt_iff_toNat_lt b a
  have e3 := @UInt8.lt_iff_toNat_lt b c
  have e4 := @UInt8.lt_iff_toNat_lt c b
  have e5 := @UInt8.lt_iff_toNat_lt a c
  have e6 := @UInt8.lt_iff_toNat_lt c a
  by_cases h3 : a < b
  ·by_cases h4 : b < c
   ·rw [if_pos (e5.2 (by have := e1.1 h3;have := e3.1 h4;omega))];decide
   ·rw [if_neg h4] at h2
    by_cases h5 : c < b
    ·rw [if_pos h5] at h2;exact absurd h2 (by decide)
    ·have := u8_tri b c h4 h5
     subst this
     rw [if_pos h3];decide
  ·rw [if_neg h3] at h1
   by_cases h4 : b < a
   ·rw [if_pos h4] at h1;exact absurd h1 (by decide)
   ·rw [if_neg h4] at h1
    have := u8_tri a b h3 h4
    subst this
    by_cases h5 : a < c
    ·rw [if_pos h5];decide
    ·rw [if_neg h5] at h2 ⊢
     by_cases h6 : c < a
     ·rw [if_pos h6] at h2;exact absurd h2 (by decide)
     ·rw [if_neg h6] at h2 ⊢
      exact cmp_trans al bl cl h1 h2
theorem cmp_le_trans {a b c : List UInt8} (h1 : ¬ Lib.compareBytes b a < 0) (h2 : ¬ Lib.compareBytes c b < 0) : ¬ Lib.compareBytes c a < 0 := fun h => by
 rcases cmp_range a b with e | e | e
 ·exact h2 (cmp_trans c a b h e)
 ·subst e;exact h2 h
 ·exact h1 e
theorem cmp_swo : SWO (ltOf cmpB) where
 irrefl x := by simp [ltOf,cmp_self]
 trans x y z h1 h2 := by
  simp only [ltOf,decide_eq_true_eq] at *
  exact cmp_trans x y z h1 h2
 ntrans x y z h1 h2 := by
  simp only [ltOf,decide_eq_false_iff_not] at *
  exact cmp_le_trans h2 h1
def Rising (l : List (List UInt8)) : Prop := l.Pairwise fun a b => Lib.compareBytes a b < 0
theorem rising_one : ∀ {xs ys : List (List UInt8)},Rising xs -> Rising ys -> (∀ x,x ∈ xs ↔ x ∈ ys) -> xs = ys
 | [],[],_,_,_ => rfl
 | [],y :: ys,_,_,h => absurd ((h y).2 (by simp)) (by simp)
 | x :: xs,[],_,_,h => absurd ((h x).1 (by simp)) (by simp)
 | x :: xs,y :: ys,hx,hy,h => by
  obtain ⟨hx1,hx2⟩ := List.pairwise_cons.1 hx
  obtain ⟨hy1,hy2⟩ := List.pairwise_cons.1 hy
  have irr : ∀ a : List UInt8,¬ Lib.compareBytes a a < 0 := fun a => by rw [cmp_self];decide
  have hxy : x = y := by
   rcases List.mem_cons.1 ((h x).1 (by simp)) with e | e
   ·exact e
   ·rcases List.mem_cons.1 ((h y).2 (by simp)) with e' | e'
    ·exact e'.symm
    ·exact absurd (cmp_trans _ _ _ (hx1 y e') (hy1 x e)) (irr x)
  subst hxy
  rw [rising_one hx2 hy2 fun z => ⟨fun hz => ?_,fun hz => ?_⟩]
  ·rcases List.mem_cons.1 ((h z).1 (by simp [hz])) with e | e
   ·subst e;exact absurd (hx1 z hz) (irr z)
   ·exact e
  ·rcases List.mem_cons.1 ((h z).2 (by simp [hz])) with e | e
   ·subst e;exact absurd (hy1 z hz) (irr z)
   ·exact e
theorem compact_rising {d : Array (List UInt8)} (hs : SortedIn (ltOf cmpB) 0 d.size d) : ∀ m,m <= d.size -> Rising (Lib.compactUpTo d m) ∧ ∀ x,x ∈ Lib.compactUpTo d m ↔ ∃ i,i < m ∧ d[i]! = x
 | 0,_ => ⟨by simp [Lib.compactUpTo,Rising],fun x => by simp [Lib.compactUpTo]⟩
 | m + 1,hm => by
  obtain ⟨h1,h2⟩ := compact_rising hs m (by omega)
  have hle : ∀ i j,i < j -> j < d.size -> ¬ Lib.compareBytes d[j]! d[i]! < 0 := fun i j hij hj => by
   have := hs i j (Nat.zero_le _) hij hj
   simpa [ltOf] using this
  rw [Lib.compactUpTo_succ]
  cases hk : Lib.keeps d m
  ·rw [if_neg (by simp),List.append_nil]
   have hk' : ¬ (m = 0 ∨ d[m]! ≠ d[m - 1]!) := by simpa [Lib.keeps] using hk
   have hm0 : m ≠ 0 := fun e => hk' (.inl e)
   have hme : d[m]! = d[m - 1]! := Classical.byContradiction fun e => hk' (.inr e)
   refine ⟨h1,fun x => (h2 x).trans ⟨fun ⟨i,hi,e⟩ => ⟨i,by omega,e⟩,fun ⟨i,hi,e⟩ => ?_⟩⟩
   by_cases him : i = m
   ·subst him;exact ⟨i - 1,by omega,by rw [<- hme];exact e⟩
   ·exact ⟨i,by omega,e⟩
  ·rw [if_pos rfl]
   have hk' : m = 0 ∨ d[m]! ≠ d[m - 1]! := by simpa [Lib.keeps] using hk
   refine ⟨List.pairwise_append.2 ⟨h1,by simp,fun a ha b hb => ?_⟩,fun x => ?_⟩
   ·rw [List.mem_singleton] at hb
    subst hb
    obtain ⟨i,hi,rfl⟩ := (h2 a).1 ha
    rcases cmp_range d[i]! d[m]! with e | e | e
    ·exact e
    ·exfalso
     rcases hk' with h0 | hne
     ·omega
     ·apply hne
      rcases cmp_range d[m]! d[m - 1]! with e' | e' | e'
      ·exact absurd e' (hle (m - 1) m (by omega) (by omega))
      ·exact e'
      ·rw [<- e] at e'
       by_cases hi1 : i = m - 1
       ·subst hi1;rw [cmp_self] at e';exact absurd e' (by decide)
       ·exact absurd e' (hle i (m - 1) (by omega) (by omega))
    ·exact absurd e (hle i m (by omega) (by omega))
   ·rw [List.mem_append,h2 x,List.mem_singleton]
    constructor
    ·rintro (⟨i,hi,e⟩ | e)
     ·exact ⟨i,by omega,e⟩
     ·exact ⟨m,by omega,e.symm⟩
    ·rintro ⟨i,hi,e⟩
     by_cases him : i = m
     ·subst him;exact .inr e.symm
     ·exact .inl ⟨i,by omega,e⟩
theorem compact_of_perm {xs : List (List UInt8)} {d : Array (List UInt8)} (hp : PermIn 0 xs.length xs.toArray d) (hs : SortedIn (ltOf cmpB) 0 xs.length d) :
  d.size = xs.length ∧ Rising (Lib.compactUpTo d d.size) ∧ ∀ x,x ∈ Lib.compactUpTo d d.size ↔ x ∈ xs := by
 have hsz : d.size = xs.length := by have := hp.1;simpa using this
 rw [<- hsz] at hs
 obtain ⟨h1,h2⟩ := compact_rising hs d.size (Nat.le_refl _)
 refine ⟨hsz,h1,fun x => (h2 x).trans ?_⟩
 have hperm : d.toList.Perm xs := by
  have := hp.2.2
  rw [<- hsz,Array.extract_size] at this
  have e : (xs.toArray.extract 0 d.size) = xs.toArray := by rw [hsz];simp
  rw [e] at this;simpa using this
 rw [<- hperm.mem_iff,Array.mem_toList_iff,Array.mem_iff_getElem]
 constructor
 ·rintro ⟨i,hi,e⟩
  exact ⟨i,hi,by rw [<- e,getElem!_pos d i hi]⟩
 ·rintro ⟨i,hi,e⟩
  exact ⟨i,hi,by rw [<- e,getElem!_pos d i hi]⟩
end
section
open Go.RowKit
def insL (x : List UInt8) : List (List UInt8) -> List (List UInt8)
 | [] => [x]
 | y :: l => if Lib.compareBytes x y < 0 then x :: y :: l else if x = y then y :: l else y :: insL x l
theorem mem_insL {x z : List UInt8} : ∀ {l : List (List UInt8)},z ∈ insL x l ↔ z = x ∨ z ∈ l
 | [] => by simp [insL]
 | y :: l => by
  rw [insL]
  split
  ·simp
  ·split
   ·rename_i e;subst e;simp
   ·rw [List.mem_cons,mem_insL,List.mem_cons]
    constructor
    ·rintro (h | h | h)
     ·exact .inr (.inl h)
     ·exact .inl h
     ·exact .inr (.inr h)
    ·rintro (h | h | h)
     ·exact .inr (.inl h)
     ·exact .inl h
     ·exact .inr (.inr h)
theorem rising_insL {x : List UInt8} : ∀ {l : List (List UInt8)},Rising l -> Rising (insL x l)
 | [],_ => by simp [insL,Rising]
 | y :: l,h => by
  obtain ⟨h1,h2⟩ := List.pairwise_cons.1 h
  rw [insL]
  split
  ·rename_i hxy
   refine List.pairwise_cons.2 ⟨fun z hz => ?_,h⟩
   rcases List.mem_cons.1 hz with rfl | hz
   ·exact hxy
   ·exact cmp_trans _ _ _ hxy (h1 z hz)
  ·rename_i hxy
   split
   ·exact h
   ·rename_i hne
    refine List.pairwise_cons.2 ⟨fun z hz => ?_,rising_insL h2⟩
    rcases mem_insL.1 hz with rfl | hz
    ·rcases cmp_range z y with h3 | h3 | h3
     ·exact (hxy h3).elim
     ·exact (hne h3).elim
     ·exact h3
    ·exact h1 z hz
theorem length_insL (x : List UInt8) : ∀ l : List (List UInt8),(insL x l).length <= l.length + 1
 | [] => by simp [insL]
 | y :: l => by
  rw [insL]
  split
  ·simp
  ·split
   ·simp
   ·have := length_insL x l
    simp;omega
def sortL (xs : List (List UInt8)) : List (List UInt8) := xs.foldl (fun acc x => insL x acc) []
theorem fold_insL : ∀ (xs acc : List (List UInt8)),Rising acc -> Rising (xs.foldl (fun acc x => insL x acc) acc) ∧ (∀ z,z ∈ xs.foldl (fun acc x => insL x acc) acc ↔ z ∈ acc ∨ z ∈ xs) ∧ (xs.foldl (fun acc x => insL x acc) acc).length <= acc.length + xs.length
 | [],acc,h => ⟨h,by simp,by simp⟩
 | x :: xs,acc,h => by
  obtain ⟨h1,h2,h3⟩ := fold_insL xs (insL x acc) (rising_insL h)
  refine ⟨h1,fun z => ?_,?_⟩
  ·rw [List.foldl_cons,h2,mem_insL,List.mem_cons]
   constructor
   ·rintro ((h | h) | h)
    ·exact .inr (.inl h)
    ·exact .inl h
    ·exact .inr (.inr h)
   ·rintro (h | h | h)
    ·exact .inl (.inr h)
    ·exact .inl (.inl h)
    ·exact .inr h
  ·have := length_insL x acc
   rw [List.foldl_cons,List.length_cons];omega
theorem rising_sortL (xs : List (List UInt8)) : Rising (sortL xs) := (fold_insL xs [] (by simp [Rising])).1
theorem mem_sortL {xs : List (List UInt8)} {z : List UInt8} : z ∈ sortL xs ↔ z ∈ xs := by
 have := (fold_insL xs [] (by simp [Rising])).2.1 z
 rw [sortL,this];simp
theorem length_sortL (xs : List (List UInt8)) : (sortL xs).length <= xs.length := by
 have := (fold_insL xs [] (by simp [Rising])).2.2
 simpa [sortL] using this
theorem sortL_is {xs ys : List (List UInt8)} (h : Rising ys) (hm : ∀ x,x ∈ ys ↔ x ∈ xs) : ys = sortL xs :=
 rising_one h (rising_sortL xs) fun x => (hm x).trans mem_sortL.symm
end
section
open Go.RowKit
theorem ins_has {x : List UInt8} : ∀ {p q : List (List UInt8)},(∀ y ∈ p,¬ Lib.compareBytes x y < 0) -> x ∈ p -> insL x (p ++ q) = p ++ q
 | [],_,_,h => by cases h
 | y :: p,q,hp,h => by
  show insL x (y :: (p ++ q)) = y :: (p ++ q)
  rw [insL,if_neg (hp y (List.mem_cons_self ..))]
  by_cases e : x = y
  ·rw [if_pos e]
  ·rw [if_neg e,ins_has (fun z hz => hp z (List.mem_cons_of_mem _ hz)) ((List.mem_cons.1 h).resolve_left e)]
theorem ins_not {x : List UInt8} : ∀ {p q : List (List UInt8)},(∀ y ∈ p,¬ Lib.compareBytes x y < 0) -> x ∉ p -> insL x (p ++ q) = p ++ insL x q
 | [],_,_,_ => rfl
 | y :: p,q,hp,h => by
  show insL x (y :: (p ++ q)) = y :: (p ++ insL x q)
  rw [insL,if_neg (hp y (List.mem_cons_self ..)),if_neg (fun (e : x = y) => h (by rw [e];exact List.mem_cons_self ..)),ins_not (fun z hz => hp z (List.mem_cons_of_mem _ hz)) (fun hz => h (List.mem_cons_of_mem _ hz))]
theorem ins_here {x : List UInt8} : ∀ {q : List (List UInt8)},(∀ y,q.head? = some y -> Lib.compareBytes x y < 0) -> insL x q = x :: q
 | [],_ => rfl
 | y :: q,h => by rw [insL,if_pos (h y rfl)]
theorem ins_at {x : List UInt8} {o : List (List UInt8)} {k : Nat} (hp : ∀ y ∈ o.take k,¬ Lib.compareBytes x y < 0) (hq : ∀ y,o[k]? = some y -> Lib.compareBytes x y < 0) (h : x ∉ o.take k) : insL x o = o.take k ++ [x] ++ o.drop k := by
 have e : o.take k ++ o.drop k = o := List.take_append_drop k o
 have h2 := ins_not (q := o.drop k) hp h
 rw [e] at h2
 rw [h2,ins_here (fun y hy => hq y (by rw [<- hy,List.head?_drop])),List.append_assoc];rfl
theorem ins_in {x : List UInt8} {o : List (List UInt8)} {k : Nat} (hp : ∀ y ∈ o.take k,¬ Lib.compareBytes x y < 0) (h : x ∈ o.take k) : insL x o = o := by
 have h2 := ins_has (q := o.drop k) hp h
 rwa [List.take_append_drop] at h2
theorem sortL_snoc (xs : List (List UInt8)) (x : List UInt8) : sortL (xs ++ [x]) = insL x (sortL xs) := by rw [sortL,List.foldl_append];rfl
theorem sortL_take {xs : List (List UInt8)} {j : Nat} (h : j < xs.length) : sortL (xs.take (j + 1)) = insL xs[j] (sortL (xs.take j)) := by rw [List.take_succ_eq_append_getElem h,sortL_snoc]
theorem take_more {o : List (List UInt8)} {k : Nat} (h : k < o.length) : o.take (k + 1) = o.take k ++ [o[k]] := List.take_succ_eq_append_getElem h
end
end Go.Proofs.YtdpooagnbmpinaaGreatDoor
