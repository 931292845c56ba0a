import Derived.Test.YtdpooagnbmpinaaGreatDoorZC4
import Derived.Deep.RegionHeld3
namespace Go.Proofs.YtdpooagnbmpinaaGreatDoor
section
open Go.RowKit
theorem right_len {x : List UInt8} (h : rightB x = true) : x.length <= 40 := by
 simp [rightB] at h;omega
theorem readN_cases (l : List (List UInt8)) : ((readN l).1 = 0 ∧ (readN l).2 = l ∧ l.length <= 16 ∧ l.all rightB = true) ∨ (((readN l).1 = 170 ∨ (readN l).1 = 160) ∧ (readN l).2 = []) := by
 unfold readN
 by_cases h1 : l.any List.isEmpty = true
 ·rw [if_pos h1];exact .inr ⟨.inl rfl,rfl⟩
 ·rw [if_neg h1]
  by_cases h2 : 16 < l.length
  ·rw [if_pos h2];exact .inr ⟨.inl rfl,rfl⟩
  ·rw [if_neg h2]
   by_cases h3 : l.all rightB = true
   ·rw [if_pos h3];exact .inl ⟨rfl,rfl,by omega,h3⟩
   ·rw [if_neg h3];exact .inr ⟨.inr rfl,rfl⟩
theorem readP_cases (s : List UInt8) : ((readP s).1 = 0 ∧ Fine (readP s).2 ∧ (readP s).2.all rightB = true) ∨ (((readP s).1 = 170 ∨ (readP s).1 = 160) ∧ (readP s).2 = []) := by
 unfold readP
 by_cases h0 : Lib.hasPrefix s [47] = true
 ·rw [if_pos h0]
  unfold readR
  by_cases h1 : s.drop 1 = []
  ·rw [if_pos h1];exact .inl ⟨rfl,⟨by simp,by simp⟩,rfl⟩
  ·rw [if_neg h1]
   rcases readN_cases (splitL 47 (s.drop 1)) with ⟨e1,e2,e3,e4⟩ | h
   ·exact .inl ⟨e1,by rw [e2];exact ⟨e3,fun x hx => right_len (List.all_eq_true.1 e4 x hx)⟩,by rw [e2];exact e4⟩
   ·exact .inr h
 ·rw [if_neg h0];exact .inr ⟨.inl rfl,rfl⟩
def lastN (l : List (List UInt8)) : List UInt8 := l.getLastD []
def parentP (s : List UInt8) : List UInt8 × List UInt8 × Int :=
 if (readP s).1 ≠ 0 then ([],[],(readP s).1) else if (readP s).2 = [] then ([],[],5) else (textP ((readP s).2.take ((readP s).2.length - 1)),lastN (readP s).2,0)
def ParentPost (s : ByteArray) (w : World) (e : Ending) (w' : World) : Prop :=
 e = .returned (.tuple #[.string (ofBytes (parentP (bytesOf s)).1),.string (ofBytes (parentP (bytesOf s)).2.1),.int .i64 (parentP (bytesOf s)).2.2]) ∧ Below w.heap.size w w'
def joinP (xs : List ByteArray) : List UInt8 × Int :=
 if rightN xs = 0 then (textP (xs.map bytesOf),0) else ([],rightN xs)
def JoinPost (xs : List ByteArray) (w : World) (e : Ending) (w' : World) : Prop :=
 e = .returned (.tuple #[.string (ofBytes (joinP xs).1),.int .i64 (joinP xs).2]) ∧ Below w.heap.size w w'
end
section
open Go.RowKit
def withinN (a b : List (List UInt8)) : Bool := decide (b.length < a.length) && decide (a.take b.length = b)
def withinP (s t : List UInt8) : Bool × Int :=
 if (readP s).1 ≠ 0 then (false,(readP s).1) else if (readP t).1 ≠ 0 then (false,(readP t).1) else (withinN (readP s).2 (readP t).2,0)
def WithinPost (s t : ByteArray) (w : World) (e : Ending) (w' : World) : Prop :=
 e = .returned (.tuple #[.bool (withinP (bytesOf s) (bytesOf t)).1,.int .i64 (withinP (bytesOf s) (bytesOf t)).2]) ∧ Below w.heap.size w w'
end
section
open Go.RowKit
end
end Go.Proofs.YtdpooagnbmpinaaGreatDoor
