import Derived.Test.YtdpooagnbmpinaaGreatDoorZM3
import Derived.Test.YtdpooagnbmpinaaGreatDoorZC4
import Derived.Test.YtdpooagnbmpinaaGreatDoorZGZ
import Derived.Test.YtdpooagnbmpinaaGreatDoorZPC
namespace Go.Proofs.YtdpooagnbmpinaaGreatDoor
section
open Go.RowKit
structure ResP where
 no : Nat
 kind : Nat
 links : Nat
 n : Nat
 names : List (List UInt8)
 bytes : List UInt8
def resZero : ResP := ⟨0,0,0,0,[],[]⟩
structure LookP where
 more : Bool
 at_ : Nat
 used : Nat
 res : ResP
def lookZero : LookP := ⟨false,0,0,resZero⟩
def loadsP (fed : List Nat) : Nat -> Nat -> List Nat -> List Nat -> Res (List Nat)
 | 0,_,acc,ats => .val acc ats
 | n + 1,p,acc,ats => (loadP fed p ats).bind fun x ats => loadsP fed n (p + 1) (acc ++ [x]) ats
def sizeP (fed : List Nat) (top : Nat) (ats : List Nat) : Res Nat :=
 (loadP fed (top * 8 + 0) ats).bind fun w ats => if w <= 448 then .val w ats else .stop (.err 300) ats
def chainE {α : Type} (f : Nat -> α -> List Nat -> List Nat -> Res α) (fed : List Nat) : Nat -> Nat -> α -> List Nat -> Res α
 | 0,line,a,ats => if line = 0 then .val a ats else .stop (.err 300) ats
 | fuel + 1,line,a,ats => if line = 0 then .val a ats else
  (f line a fed ats).bind fun a ats => (loadP fed (line * 8 + 0) ats).bind fun x ats => (pointerP x ats).bind fun next ats => chainE f fed fuel next a ats
def bucketsE {α : Type} (f : Nat -> α -> List Nat -> List Nat -> Res α) (fed : List Nat) (top : Nat) : Nat -> Nat -> α -> List Nat -> Res α
 | 0,_,a,ats => .val a ats
 | n + 1,b,a,ats => (loadP fed (top * 8 + b) ats).bind fun x ats => (pointerP x ats).bind fun line ats => (chainE f fed 1024 line a ats).bind fun a ats => bucketsE f fed top n (b + 1) a ats
def nameP (fed : List Nat) (line : Nat) (ats : List Nat) : Res (List UInt8) :=
 (loadP fed (line * 8 + 2) ats).bind fun many ats => (loadsP fed 5 (line * 8 + 3) [] ats).bind fun ws ats =>
  if (readL (fun k => ws.getD k 0) (min many 41 : Nat)).2 = 0 then .val (readL (fun k => ws.getD k 0) (min many 41 : Nat)).1 ats else .stop (.err 300) ats
def countE (_ : Nat) (a : Nat) (_ ats : List Nat) : Res Nat := .val (a + 1) ats
def namesE (line : Nat) (a : List (List UInt8)) (fed ats : List Nat) : Res (List (List UInt8)) := (nameP fed line ats).bind fun s ats => .val (a ++ [s]) ats
def partP (fed : List Nat) (top k : Nat) (ats : List Nat) : Res (List Nat) :=
 (loadP fed (top * 8 + (1 + k)) ats).bind fun x ats => (pointerP x ats).bind fun p ats => if p = 0 then .val (List.replicate 8 0) ats else loadsP fed 8 (p * 8) [] ats
def partsP (wanted : Nat -> Bool) (fed : List Nat) (top : Nat) : Nat -> Nat -> List (List Nat) -> List Nat -> Res (List (List Nat))
 | 0,_,acc,ats => .val acc ats
 | n + 1,k,acc,ats => if wanted k then (partP fed top k ats).bind fun l ats => partsP wanted fed top n (k + 1) (acc ++ [l]) ats
  else partsP wanted fed top n (k + 1) (acc ++ [List.replicate 8 0]) ats
def readLen (size : Nat) (a n : Nat) : Nat := min n (size - a)
def wantedB (size a n k : Nat) : Bool := decide (0 < readLen size a n ∧ a / 64 <= k ∧ k <= (a + readLen size a n - 1) / 64)
def chunkB (l : List Nat) : List UInt8 := l.flatMap byte8
def readE (fed : List Nat) (top : Nat) (a n : Nat) (ats : List Nat) : Res ResP :=
 (sizeP fed top ats).bind fun size ats => (partsP (wantedB size a n) fed top ((size + 63) / 64) 0 [] ats).bind fun l ats =>
  .val ⟨0,0,0,0,[],(((l.flatMap chunkB).take size).drop a).take n⟩ ats
def statE (fed : List Nat) (nd : Nat × Nat × Nat) (ats : List Nat) : Res ResP :=
 if nd.1 = 1 then (sizeP fed nd.2.2 ats).bind fun size ats => .val ⟨0,nd.1,nd.2.1,size,[],[]⟩ ats
 else (bucketsE countE fed nd.2.2 7 0 0 ats).bind fun n ats => .val ⟨0,nd.1,nd.2.1,n,[],[]⟩ ats
def listE (fed : List Nat) (nd : Nat × Nat × Nat) (ats : List Nat) : Res ResP :=
 if nd.1 = 2 then (bucketsE namesE fed nd.2.2 7 0 [] ats).bind fun l ats => .val ⟨0,0,0,0,sortL l,[]⟩ ats else .stop (.err 201) ats
def readEF (fed : List Nat) (nd : Nat × Nat × Nat) (a n : Nat) (ats : List Nat) : Res ResP :=
 if nd.1 = 1 then readE fed nd.2.2 a n ats else .stop (.err 204) ats
def askE (k : Int) (a n : Nat) (nd : Nat × Nat × Nat) (fed ats : List Nat) : Res ResP :=
 if k = 1 then statE fed nd ats else if k = 2 then listE fed nd ats else readEF fed nd a n ats
def lookF (names : List (List UInt8)) (k : Int) (a n : Nat) (fed ats : List Nat) : Res ResP :=
 (walkF names fed ats).bind fun t ats => askE k a n t.2 fed ats
def lookOf : Res ResP -> LookP
 | .val r l => ⟨false,0,l.length,r⟩
 | .stop (.need p) _ => ⟨true,p,0,resZero⟩
 | .stop (.err c) l => ⟨false,0,l.length,{ resZero with no := c }⟩
def checkN (k : Int) (path dest : List UInt8) (a n : Int) (bl : Nat) : Int :=
 if k < 1 ∨ 11 < k then 2
 else if (readP path).1 ≠ 0 then (readP path).1
 else if (k = 8 ∨ k = 9) ∧ (readP dest).1 ≠ 0 then (readP dest).1
 else if k = 3 then (if a < 0 ∨ n < 0 then 2 else 0)
 else if k = 10 then (if a < 0 then 2 else if 448 < a ∨ 448 < a + bl then 190 else 0)
 else if k = 11 then (if n < 0 then 2 else if 448 < n then 190 else 0)
 else 0
def lookN (k : Int) (path dest : List UInt8) (a n : Int) (bl : Nat) (fed : List Nat) : LookP × Int :=
 if k < 1 ∨ 3 < k then (lookZero,2)
 else if checkN k path dest a n bl ≠ 0 then (lookZero,checkN k path dest a n bl)
 else if 20000 < fed.length then (lookZero,3)
 else (lookOf (lookF (readP path).2 k a.toNat n.toNat fed []),0)
theorem Good.loads : ∀ (n p : Nat) (acc : List Nat),Good fun fed ats => loadsP fed n p acc ats
 | 0,_,acc => Good.val acc
 | n + 1,p,acc => (Good.load p).bind fun x => Good.loads n (p + 1) (acc ++ [x])
theorem Good.ite {α : Type} {c : Prop} [Decidable c] {F G : List Nat -> List Nat -> Res α} (hF : Good F) (hG : Good G) : Good fun fed ats => if c then F fed ats else G fed ats := by
 by_cases h : c
 ·simpa [h] using hF
 ·simpa [h] using hG
theorem Good.size (top : Nat) : Good fun fed ats => sizeP fed top ats :=
 (Good.load (top * 8 + 0)).bind fun w => (Good.val w).ite (Good.err 300)
theorem Good.chainE {α : Type} {f : Nat -> α -> List Nat -> List Nat -> Res α} (hf : ∀ line a,Good (f line a)) : ∀ (fuel line : Nat) (a : α),Good fun fed ats => Go.Proofs.YtdpooagnbmpinaaGreatDoor.chainE f fed fuel line a ats
 | 0,line,a => by
  unfold Go.Proofs.YtdpooagnbmpinaaGreatDoor.chainE
  exact (Good.val a).ite (Good.err 300)
 | fuel + 1,line,a => by
  unfold Go.Proofs.YtdpooagnbmpinaaGreatDoor.chainE
  exact (Good.val a).ite ((hf line a).bind fun a => (Good.load (line * 8 + 0)).bind fun x => (Good.pointer x).bind fun next => Good.chainE hf fuel next a)
theorem Good.buckets {α : Type} {f : Nat -> α -> List Nat -> List Nat -> Res α} (hf : ∀ line a,Good (f line a)) (top : Nat) : ∀ (n b : Nat) (a : α),Good fun fed ats => bucketsE f fed top n b a ats
 | 0,_,a => Good.val a
 | n + 1,b,a => (Good.load (top * 8 + b)).bind fun x => (Good.pointer x).bind fun line => (Good.chainE hf 1024 line a).bind fun a => Good.buckets hf top n (b + 1) a
theorem Good.name (line : Nat) : Good fun fed ats => nameP fed line ats :=
 (Good.load (line * 8 + 2)).bind fun _ => (Good.loads 5 (line * 8 + 3) []).bind fun _ => (Good.val _).ite (Good.err 300)
theorem Good.count (line a : Nat) : Good (countE line a) := Good.val (a + 1)
theorem Good.names (line : Nat) (a : List (List UInt8)) : Good (namesE line a) := (Good.name line).bind fun s => Good.val (a ++ [s])
theorem Good.part (top k : Nat) : Good fun fed ats => partP fed top k ats :=
 (Good.load (top * 8 + (1 + k))).bind fun x => (Good.pointer x).bind fun p => (Good.val _).ite (Good.loads 8 (p * 8) [])
theorem Good.parts (wanted : Nat -> Bool) (top : Nat) : ∀ (n k : Nat) (acc : List (List Nat)),Good fun fed ats => partsP wanted fed top n k acc ats
 | 0,_,acc => Good.val acc
 | n + 1,k,acc => by
  unfold partsP
  exact ((Good.part top k).bind fun l => Good.parts wanted top n (k + 1) (acc ++ [l])).ite (Good.parts wanted top n (k + 1) (acc ++ [List.replicate 8 0]))
theorem Good.read (top a n : Nat) : Good fun fed ats => readE fed top a n ats :=
 (Good.size top).bind fun size => (Good.parts (wantedB size a n) top ((size + 63) / 64) 0 []).bind fun _ => Good.val _
theorem Good.ask (k : Int) (a n : Nat) (nd : Nat × Nat × Nat) : Good (askE k a n nd) := by
 unfold askE statE listE readEF
 exact (((Good.size nd.2.2).bind fun _ => Good.val _).ite ((Good.buckets Good.count nd.2.2 7 0 0).bind fun _ => Good.val _)).ite
  ((((Good.buckets Good.names nd.2.2 7 0 []).bind fun _ => Good.val _).ite (Good.err 201)).ite ((Good.read nd.2.2 a n).ite (Good.err 204)))
theorem Good.look (names : List (List UInt8)) (k : Int) (a n : Nat) : Good (lookF names k a n) := (Good.walkF names).bind fun t => Good.ask k a n t.2
theorem look_steady (names : List (List UInt8)) (k : Int) (a n : Nat) (fed more : List Nat) : Steady fed (lookF names k a n fed []) (lookF names k a n (fed ++ more) []) := (Good.look names k a n).steady fed more [] (by simp)
end
section
open Go.RowKit
structure GoodE {α : Type} (F : List Nat -> List Nat -> Res α) : Prop extends Good F where
 errs : ∀ fed ats c l,ats.length <= fed.length -> F fed ats = .stop (.err c) l -> l.length <= fed.length
theorem GoodE.val {α : Type} (a : α) : GoodE fun _ ats => .val a ats := ⟨Good.val a,fun _ _ _ _ _ e => (by cases e)⟩
theorem GoodE.err {α : Type} (c : Nat) : GoodE (α := α) fun _ ats => .stop (.err c) ats := ⟨Good.err c,fun _ _ _ _ h e => (by cases e;exact h)⟩
theorem GoodE.load (p : Nat) : GoodE fun fed ats => loadP fed p ats := by
 refine ⟨Good.load p,fun fed ats c l _ e => ?_⟩
 unfold loadP at e
 split at e <;> cases e
theorem GoodE.bind {α β : Type} {F : List Nat -> List Nat -> Res α} {G : α -> List Nat -> List Nat -> Res β} (hF : GoodE F) (hG : ∀ a,GoodE (G a)) : GoodE fun fed ats => (F fed ats).bind fun a l => G a fed l := by
 refine ⟨hF.toGood.bind fun a => (hG a).toGood,fun fed ats c l h e => ?_⟩
 cases hr : F fed ats with
 | val a l' =>
  rw [hr] at e
  exact (hG a).errs fed l' c l (hF.len fed ats a l' h hr) e
 | stop o l' =>
  rw [hr] at e
  have e' : o = .err c ∧ l' = l := by cases e;exact ⟨rfl,rfl⟩
  obtain ⟨rfl,rfl⟩ := e'
  exact hF.errs fed ats c l' h hr
theorem GoodE.pointer (x : Nat) : GoodE fun _ ats => pointerP x ats := by
 by_cases h : x < 1024
 ·simpa [pointerP,h] using GoodE.val x
 ·simpa [pointerP,h] using GoodE.err (α := Nat) 300
theorem GoodE.some (x : Nat) : GoodE fun _ ats => someP x ats := by
 by_cases h : x = 0
 ·simpa [someP,h] using GoodE.err (α := Nat) 300
 ·simpa [someP,h] using GoodE.pointer x
theorem GoodE.enter (line : Nat) : GoodE fun fed ats => enterP fed line ats := by
 refine (GoodE.load (line * 8 + 0)).bind fun k => (GoodE.load (line * 8 + 1)).bind fun t => ?_
 cases h : nodeP k t with
 | none => exact GoodE.err 300
 | some n => exact GoodE.val n
theorem GoodE.fitsW (line : Nat) : ∀ (ws : List Nat) (k : Nat),GoodE fun fed ats => fitsW fed line ws k ats
 | [],_ => GoodE.val true
 | x :: ws,k => by
  refine (GoodE.load (line * 8 + (3 + k))).bind fun y => ?_
  by_cases h : y = x
  ·simpa [h] using GoodE.fitsW line ws (k + 1)
  ·simpa [h] using GoodE.val false
theorem GoodE.fits (line : Nat) (s : List UInt8) : GoodE fun fed ats => fitsP fed line s ats := by
 refine (GoodE.load (line * 8 + 2)).bind fun y => ?_
 by_cases h : y = s.length
 ·simpa [h] using GoodE.fitsW line (wordsN s) 0
 ·simpa [h] using GoodE.val false
theorem GoodE.chain (s : List UInt8) : ∀ (fuel line : Nat),GoodE fun fed ats => chainP fed s fuel line ats
 | 0,line => by
  by_cases h : line = 0
  ·simpa [chainP,h] using GoodE.err (α := Nat) 202
  ·simpa [chainP,h] using GoodE.err (α := Nat) 300
 | fuel + 1,line => by
  by_cases h : line = 0
  ·simpa [chainP,h] using GoodE.err (α := Nat) 202
  ·have : GoodE fun fed ats => (fitsP fed line s ats).bind fun is ats => if is then (loadP fed (line * 8 + 1) ats).bind someP else (loadP fed (line * 8 + 0) ats).bind fun x ats => (pointerP x ats).bind fun next ats => chainP fed s fuel next ats := by
    refine (GoodE.fits line s).bind fun is => ?_
    cases is
    ·simpa using (GoodE.load (line * 8 + 0)).bind fun x => (GoodE.pointer x).bind fun next => GoodE.chain s fuel next
    ·simpa using (GoodE.load (line * 8 + 1)).bind fun x => GoodE.some x
   simpa only [chainP,h,if_false] using this
theorem GoodE.find (top : Nat) (s : List UInt8) : GoodE fun fed ats => findP fed top s ats :=
 (GoodE.load (top * 8 + bucketN s)).bind fun x => (GoodE.pointer x).bind fun line => GoodE.chain s 1024 line
theorem GoodE.walkL : ∀ (names : List (List UInt8)) (line : Nat) (n : Nat × Nat × Nat),GoodE fun fed ats => walkL fed names line n ats
 | [],line,n => GoodE.val (line,n)
 | s :: l,line,n => by
  by_cases h : n.1 = 2
  ·simpa [Go.Proofs.YtdpooagnbmpinaaGreatDoor.walkL,h] using (GoodE.find n.2.2 s).bind fun line => (GoodE.enter line).bind fun n => GoodE.walkL l line n
  ·simpa [Go.Proofs.YtdpooagnbmpinaaGreatDoor.walkL,h] using GoodE.err (α := Nat × Nat × Nat × Nat) 201
theorem GoodE.walkF (names : List (List UInt8)) : GoodE (walkF names) :=
 (GoodE.load 1).bind fun x => (GoodE.some x).bind fun line => (GoodE.enter line).bind fun n => GoodE.walkL names line n
theorem GoodE.loads : ∀ (n p : Nat) (acc : List Nat),GoodE fun fed ats => loadsP fed n p acc ats
 | 0,_,acc => GoodE.val acc
 | n + 1,p,acc => (GoodE.load p).bind fun x => GoodE.loads n (p + 1) (acc ++ [x])
theorem GoodE.ite {α : Type} {c : Prop} [Decidable c] {F G : List Nat -> List Nat -> Res α} (hF : GoodE F) (hG : GoodE G) : GoodE fun fed ats => if c then F fed ats else G fed ats := by
 by_cases h : c
 ·simpa [h] using hF
 ·simpa [h] using hG
theorem GoodE.size (top : Nat) : GoodE fun fed ats => sizeP fed top ats :=
 (GoodE.load (top * 8 + 0)).bind fun w => (GoodE.val w).ite (GoodE.err 300)
theorem GoodE.chainE {α : Type} {f : Nat -> α -> List Nat -> List Nat -> Res α} (hf : ∀ line a,GoodE (f line a)) : ∀ (fuel line : Nat) (a : α),GoodE fun fed ats => Go.Proofs.YtdpooagnbmpinaaGreatDoor.chainE f fed fuel line a ats
 | 0,line,a => by
  unfold Go.Proofs.YtdpooagnbmpinaaGreatDoor.chainE
  exact (GoodE.val a).ite (GoodE.err 300)
 | fuel + 1,line,a => by
  unfold Go.Proofs.YtdpooagnbmpinaaGreatDoor.chainE
  exact (GoodE.val a).ite ((hf line a).bind fun a => (GoodE.load (line * 8 + 0)).bind fun x => (GoodE.pointer x).bind fun next => GoodE.chainE hf fuel next a)
theorem GoodE.buckets {α : Type} {f : Nat -> α -> List Nat -> List Nat -> Res α} (hf : ∀ line a,GoodE (f line a)) (top : Nat) : ∀ (n b : Nat) (a : α),GoodE fun fed ats => bucketsE f fed top n b a ats
 | 0,_,a => GoodE.val a
 | n + 1,b,a => (GoodE.load (top * 8 + b)).bind fun x => (GoodE.pointer x).bind fun line => (GoodE.chainE hf 1024 line a).bind fun a => GoodE.buckets hf top n (b + 1) a
theorem GoodE.name (line : Nat) : GoodE fun fed ats => nameP fed line ats :=
 (GoodE.load (line * 8 + 2)).bind fun _ => (GoodE.loads 5 (line * 8 + 3) []).bind fun _ => (GoodE.val _).ite (GoodE.err 300)
theorem GoodE.count (line a : Nat) : GoodE (countE line a) := GoodE.val (a + 1)
theorem GoodE.names (line : Nat) (a : List (List UInt8)) : GoodE (namesE line a) := (GoodE.name line).bind fun s => GoodE.val (a ++ [s])
theorem GoodE.part (top k : Nat) : GoodE fun fed ats => partP fed top k ats :=
 (GoodE.load (top * 8 + (1 + k))).bind fun x => (GoodE.pointer x).bind fun p => (GoodE.val _).ite (GoodE.loads 8 (p * 8) [])
theorem GoodE.parts (wanted : Nat -> Bool) (top : Nat) : ∀ (n k : Nat) (acc : List (List Nat)),GoodE fun fed ats => partsP wanted fed top n k acc ats
 | 0,_,acc => GoodE.val acc
 | n + 1,k,acc => by
  unfold partsP
  exact ((GoodE.part top k).bind fun l => GoodE.parts wanted top n (k + 1) (acc ++ [l])).ite (GoodE.parts wanted top n (k + 1) (acc ++ [List.replicate 8 0]))
theorem GoodE.read (top a n : Nat) : GoodE fun fed ats => readE fed top a n ats :=
 (GoodE.size top).bind fun size => (GoodE.parts (wantedB size a n) top ((size + 63) / 64) 0 []).bind fun _ => GoodE.val _
theorem GoodE.ask (k : Int) (a n : Nat) (nd : Nat × Nat × Nat) : GoodE (askE k a n nd) := by
 unfold askE statE listE readEF
 exact (((GoodE.size nd.2.2).bind fun _ => GoodE.val _).ite ((GoodE.buckets GoodE.count nd.2.2 7 0 0).bind fun _ => GoodE.val _)).ite
  ((((GoodE.buckets GoodE.names nd.2.2 7 0 []).bind fun _ => GoodE.val _).ite (GoodE.err 201)).ite ((GoodE.read nd.2.2 a n).ite (GoodE.err 204)))
theorem GoodE.look (names : List (List UInt8)) (k : Int) (a n : Nat) : GoodE (lookF names k a n) := (GoodE.walkF names).bind fun t => GoodE.ask k a n t.2
def refuseN (k : Int) (path dest : List UInt8) (a n : Int) (bl : Nat) : Int := if k < 1 ∨ 3 < k then 2 else checkN k path dest a n bl
theorem lookN_refused {k : Int} {path dest : List UInt8} {a n : Int} {bl : Nat} (fed : List Nat) (h : refuseN k path dest a n bl ≠ 0) : lookN k path dest a n bl fed = (lookZero,refuseN k path dest a n bl) := by
 unfold refuseN at h ⊢
 unfold lookN
 by_cases h1 : k < 1 ∨ 3 < k
 ·rw [if_pos h1,if_pos h1]
 ·rw [if_neg h1] at h ⊢
  rw [if_neg h1,if_pos h]
theorem lookN_fine {k : Int} {path dest : List UInt8} {a n : Int} {bl : Nat} {fed : List Nat} (h : refuseN k path dest a n bl = 0) (hl : fed.length <= 20000) : lookN k path dest a n bl fed = (lookOf (lookF (readP path).2 k a.toNat n.toNat fed []),0) := by
 unfold refuseN at h
 unfold lookN
 by_cases h1 : k < 1 ∨ 3 < k
 ·rw [if_pos h1] at h;cases h
 ·rw [if_neg h1] at h ⊢
  rw [if_neg (by rw [h];exact fun h => h rfl),if_neg (by omega)]
theorem lookN_long {k : Int} {path dest : List UInt8} {a n : Int} {bl : Nat} {fed : List Nat} (h : refuseN k path dest a n bl = 0) (hl : 20000 < fed.length) : lookN k path dest a n bl fed = (lookZero,3) := by
 unfold refuseN at h
 unfold lookN
 by_cases h1 : k < 1 ∨ 3 < k
 ·rw [if_pos h1] at h;cases h
 ·rw [if_neg h1] at h ⊢
  rw [if_neg (by rw [h];exact fun h => h rfl),if_pos hl]
structure LaterL (nf nm : Nat) (l m : LookP) : Prop where
 same : l.more = false -> m = l
 used : l.more = false -> l.used <= nf
 more : l.more = true -> m.more = false -> nf < m.used
 none : nm = 0 -> m = l
structure ResGood (n : Nat) (r : ResP) : Prop where
 rise : Rising r.names
 few : r.bytes.length <= n
end
end Go.Proofs.YtdpooagnbmpinaaGreatDoor
