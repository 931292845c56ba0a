import Derived.Test.YtdpooagnbmpinaaGreatDoorZGR
import Derived.Test.YtdpooagnbmpinaaGreatDoorZGX
namespace Go.Proofs.YtdpooagnbmpinaaGreatDoor
section
open Go.RowKit
def Steady {α : Type} (fed : List Nat) (r r' : Res α) : Prop :=
 match r with
 | .stop (.need p) l => l.length = fed.length + 1 ∧ l[fed.length]? = some p ∧ l <+: r'.ats
 | .val a l => r' = .val a l
 | .stop (.err c) l => r' = .stop (.err c) l
structure Good {α : Type} (F : List Nat -> List Nat -> Res α) : Prop where
 ext : ∀ fed ats,ats <+: (F fed ats).ats
 len : ∀ fed ats a l,ats.length <= fed.length -> F fed ats = .val a l -> l.length <= fed.length
 most : ∀ fed ats,ats.length <= fed.length -> (F fed ats).ats.length <= fed.length + 1
 steady : ∀ fed more ats,ats.length <= fed.length -> Steady fed (F fed ats) (F (fed ++ more) ats)
theorem Good.val {α : Type} (a : α) : Good fun _ ats => .val a ats :=
 ⟨fun _ _ => List.prefix_refl _,fun _ _ _ _ h e => (by cases e;exact h),fun _ _ h => Nat.le_succ_of_le h,fun _ _ _ _ => rfl⟩
theorem Good.err {α : Type} (c : Nat) : Good (α := α) fun _ ats => .stop (.err c) ats :=
 ⟨fun _ _ => List.prefix_refl _,fun _ _ _ _ _ e => (by cases e),fun _ _ h => Nat.le_succ_of_le h,fun _ _ _ _ => rfl⟩
theorem Good.load (p : Nat) : Good fun fed ats => loadP fed p ats := by
 refine ⟨fun fed ats => ?_,fun fed ats a l _ e => loadP_len e,fun fed ats h => ?_,fun fed more ats h => ?_⟩
 ·unfold loadP
  split <;> exact List.prefix_append _ _
 ·unfold loadP
  split <;> simp [Res.ats] <;> omega
 ·unfold loadP
  cases hx : fed[ats.length]? with
  | some x =>
   have hl := (List.getElem?_eq_some_iff.1 hx).1
   rw [List.getElem?_append_left hl,hx]
   rfl
  | none =>
   have hl : ats.length = fed.length := by
    have := List.getElem?_eq_none_iff.1 hx
    omega
   refine ⟨by simp [hl],?_,?_⟩
   ·rw [<- hl];simp
   ·split <;> exact List.prefix_refl _
theorem Good.bind {α β : Type} {F : List Nat -> List Nat -> Res α} {G : α -> List Nat -> List Nat -> Res β} (hF : Good F) (hG : ∀ a,Good (G a)) : Good fun fed ats => (F fed ats).bind fun a l => G a fed l := by
 refine ⟨fun fed ats => ?_,fun fed ats b l h e => ?_,fun fed ats h => ?_,fun fed more ats h => ?_⟩
 ·have h1 := hF.ext fed ats
  cases hr : F fed ats with
  | val a l => rw [hr] at h1;exact h1.trans ((hG a).ext fed l)
  | stop o l => rw [hr] at h1;exact h1
 ·obtain ⟨a,l',h1,h2⟩ := bind_val e
  exact (hG a).len fed l' b l (hF.len fed ats a l' h h1) h2
 ·cases hr : F fed ats with
  | val a l => exact (hG a).most fed l (hF.len fed ats a l h hr)
  | stop o l =>
   have := hF.most fed ats h
   rw [hr] at this
   exact this
 ·have hs := hF.steady fed more ats h
  unfold Steady at hs
  cases hr : F fed ats with
  | val a l =>
   rw [hr] at hs
   simp only at hs
   rw [hs]
   exact (hG a).steady fed more l (hF.len fed ats a l h hr)
  | stop o l =>
   rw [hr] at hs
   cases o with
   | err c =>
    simp only at hs
    rw [hs]
    rfl
   | need p =>
    obtain ⟨h1,h2,h3⟩ := hs
    refine ⟨h1,h2,?_⟩
    cases hr' : F (fed ++ more) ats with
    | val a l' => rw [hr'] at h3;exact h3.trans ((hG a).ext (fed ++ more) l')
    | stop o' l' => rw [hr'] at h3;exact h3
theorem Good.pointer (x : Nat) : Good fun _ ats => pointerP x ats := by
 by_cases h : x < 1024
 ·simpa [pointerP,h] using Good.val x
 ·simpa [pointerP,h] using Good.err (α := Nat) 300
theorem Good.some (x : Nat) : Good fun _ ats => someP x ats := by
 by_cases h : x = 0
 ·simpa [someP,h] using Good.err (α := Nat) 300
 ·simpa [someP,h] using Good.pointer x
theorem Good.enter (line : Nat) : Good fun fed ats => enterP fed line ats := by
 refine (Good.load (line * 8 + 0)).bind fun k => (Good.load (line * 8 + 1)).bind fun t => ?_
 cases h : nodeP k t with
 | none => exact Good.err 300
 | some n => exact Good.val n
theorem Good.fitsW (line : Nat) : ∀ (ws : List Nat) (k : Nat),Good fun fed ats => fitsW fed line ws k ats
 | [],_ => Good.val true
 | x :: ws,k => by
  refine (Good.load (line * 8 + (3 + k))).bind fun y => ?_
  by_cases h : y = x
  ·simpa [h] using Good.fitsW line ws (k + 1)
  ·simpa [h] using Good.val false
theorem Good.fits (line : Nat) (s : List UInt8) : Good fun fed ats => fitsP fed line s ats := by
 refine (Good.load (line * 8 + 2)).bind fun y => ?_
 by_cases h : y = s.length
 ·simpa [h] using Good.fitsW line (wordsN s) 0
 ·simpa [h] using Good.val false
theorem Good.chain (s : List UInt8) : ∀ (fuel line : Nat),Good fun fed ats => chainP fed s fuel line ats
 | 0,line => by
  by_cases h : line = 0
  ·simpa [chainP,h] using Good.err (α := Nat) 202
  ·simpa [chainP,h] using Good.err (α := Nat) 300
 | fuel + 1,line => by
  by_cases h : line = 0
  ·simpa [chainP,h] using Good.err (α := Nat) 202
  ·have : Good fun fed ats => (fitsP fed line s ats).bind fun is ats => if is then (loadP fed (line * 8 + 1) ats).bind someP else (loadP fed (line * 8 + 0) ats).bind fun x ats => (pointerP x ats).bind fun next ats => chainP fed s fuel next ats := by
    refine (Good.fits line s).bind fun is => ?_
    cases is
    ·simpa using (Good.load (line * 8 + 0)).bind fun x => (Good.pointer x).bind fun next => Good.chain s fuel next
    ·simpa using (Good.load (line * 8 + 1)).bind fun x => Good.some x
   simpa only [chainP,h,if_false] using this
theorem Good.find (top : Nat) (s : List UInt8) : Good fun fed ats => findP fed top s ats :=
 (Good.load (top * 8 + bucketN s)).bind fun x => (Good.pointer x).bind fun line => Good.chain s 1024 line
theorem Good.walkL : ∀ (names : List (List UInt8)) (line : Nat) (n : Nat × Nat × Nat),Good fun fed ats => walkL fed names line n ats
 | [],line,n => Good.val (line,n)
 | s :: l,line,n => by
  by_cases h : n.1 = 2
  ·simpa [Go.Proofs.YtdpooagnbmpinaaGreatDoor.walkL,h] using (Good.find n.2.2 s).bind fun line => (Good.enter line).bind fun n => Good.walkL l line n
  ·simpa [Go.Proofs.YtdpooagnbmpinaaGreatDoor.walkL,h] using Good.err (α := Nat × Nat × Nat × Nat) 201
def walkF (names : List (List UInt8)) (fed ats : List Nat) : Res (Nat × Nat × Nat × Nat) :=
 (loadP fed 1 ats).bind fun x ats => (someP x ats).bind fun line ats => (enterP fed line ats).bind fun n ats => walkL fed names line n ats
theorem Good.walkF (names : List (List UInt8)) : Good (walkF names) :=
 (Good.load 1).bind fun x => (Good.some x).bind fun line => (Good.enter line).bind fun n => Good.walkL names line n
end
section
open Go.RowKit
def cellsBw (b : Bool) (p u e l k n t : Int) : Nat -> Value := cellsW (.bool b) (.int .i64 p) (.int .i64 u) (.int .i64 e) (.int .i64 l) (.int .i64 k) (.int .i64 n) (.int .i64 t)
def Later (nf : Nat) (xs : List Nat) (b c : Bool) (a1 a2 a3 a4 a5 a6 a7 c1 c2 c3 c4 c5 c6 c7 : Int) : Prop :=
 (b = false ∧ c = false ∧ c1 = a1 ∧ c2 = a2 ∧ c3 = a3 ∧ c4 = a4 ∧ c5 = a5 ∧ c6 = a6 ∧ c7 = a7 ∧ a2 = xs.length) ∨
 (b = true ∧ c = true ∧ xs.length = nf + 1 ∧ ∃ q : Nat,a1 = q ∧ xs[nf]? = some q) ∨
 (b = true ∧ c = false ∧ xs.length = nf + 1 ∧ (nf : Int) < c2 ∧ ∃ q : Nat,a1 = q ∧ xs[nf]? = some q)
end
end Go.Proofs.YtdpooagnbmpinaaGreatDoor
