import Derived.Test.YtdpooagnbmpinaaGreatDoorZI7
import Derived.Test.YtdpooagnbmpinaaGreatDoorZEP
namespace Go.Proofs.YtdpooagnbmpinaaGreatDoor
section
open Go.RowKit
def Sim {α β : Type} (rel : α -> β -> Prop) (bad : Nat -> β -> Prop) (P : Res α) (Q : β × RSt) : Prop :=
 match P with
 | .val a l => rel a Q.1 ∧ Q.2 = (l,false)
 | .stop (.err c) l => bad c Q.1 ∧ Q.2 = (l,false)
 | .stop (.need _) l => Q.2 = (l,true)
theorem Sim.bind {α β γ δ : Type} {rel : α -> β -> Prop} {bad : Nat -> β -> Prop} {rel' : γ -> δ -> Prop} {bad' : Nat -> δ -> Prop} {P : Res α} {Q : β × RSt} {G : α -> List Nat -> Res γ} {H : β -> RSt -> δ × RSt} (h : Sim rel bad P Q)
  (hv : ∀ a b l,rel a b -> Sim rel' bad' (G a l) (H b (l,false))) (he : ∀ c b l,bad c b -> bad' c (H b (l,false)).1 ∧ (H b (l,false)).2 = (l,false)) (hm : ∀ b l,(H b (l,true)).2 = (l,true)) : Sim rel' bad' (P.bind G) (H Q.1 Q.2) := by
 obtain ⟨b,st⟩ := Q
 cases P with
 | val a l =>
  obtain ⟨h1,h2⟩ := h
  simp only at h1 h2
  subst h2
  exact hv a b l h1
 | stop o l =>
  cases o with
  | err c =>
   obtain ⟨h1,h2⟩ := h
   simp only at h1 h2
   subst h2
   exact he c b l h1
  | need p =>
   have h2 : st = (l,true) := h
   subst h2
   exact hm b l
theorem bind_again {α β γ : Type} (P : Res α) (F : α -> List Nat -> Res β) (G : β -> List Nat -> Res γ) : (P.bind fun a l => (F a l).bind G) = (P.bind F).bind G := by
 cases P <;> rfl
theorem load_sim' (fed : List Nat) (p : Nat) (ats : List Nat) : Sim (fun a b => a = b) (fun _ _ => False) (loadP fed p ats) (loadR fed p (ats,false)) := by
 rcases loadR_sim (fed := fed) p ats with ⟨x,l,h1,h2⟩ | ⟨l,h1,h2⟩
 ·rw [h1,h2];exact ⟨rfl,rfl⟩
 ·rw [h1,h2];exact rfl
def sizeR (fed : List Nat) (top : Nat) (st : RSt) : (Nat × Bool) × RSt := ((min (loadR fed (top * 8) st).1 999,decide ((loadR fed (top * 8) st).1 <= 448)),(loadR fed (top * 8) st).2)
def loadsR (fed : List Nat) : Nat -> Nat -> List Nat -> RSt -> List Nat × RSt
 | 0,_,acc,st => (acc,st)
 | n + 1,p,acc,st => loadsR fed n (p + 1) (acc ++ [(loadR fed p st).1]) (loadR fed p st).2
def nameOf (ws : List Nat) (many : Nat) : List UInt8 × Bool := ((readL (fun k => ws.getD k 0) (min many 99 : Nat)).1,(readL (fun k => ws.getD k 0) (min many 99 : Nat)).2 == 0)
def nameR (fed : List Nat) (line : Nat) (st : RSt) : (List UInt8 × Bool) × RSt :=
 (nameOf (loadsR fed 5 (line * 8 + 3) [] (loadR fed (line * 8 + 2) st).2).1 (loadR fed (line * 8 + 2) st).1,(loadsR fed 5 (line * 8 + 3) [] (loadR fed (line * 8 + 2) st).2).2)
abbrev LinkV := Nat × List (List UInt8) × Bool
def linkR (named : Bool) (fed : List Nat) : Nat -> Nat -> Nat -> List (List UInt8) -> RSt -> LinkV × RSt
 | 0,x,cnt,acc,st => if x = 0 then ((cnt,acc,true),st) else ((0,[],false),st)
 | fuel + 1,x,cnt,acc,st => if x = 0 then ((cnt,acc,true),st) else if 1023 < x then ((0,[],false),st) else
  if named then
   (if (nameR fed x st).1.2 then linkR named fed fuel (loadR fed (x * 8) (nameR fed x st).2).1 (cnt + 1) (acc ++ [(nameR fed x st).1.1]) (loadR fed (x * 8) (nameR fed x st).2).2 else ((0,[],false),(nameR fed x st).2))
  else linkR named fed fuel (loadR fed (x * 8) st).1 (cnt + 1) acc (loadR fed (x * 8) st).2
def chainRR (named : Bool) (fed : List Nat) (top b : Nat) (st : RSt) : LinkV × RSt := linkR named fed 1024 (loadR fed (top * 8 + b) st).1 0 [] (loadR fed (top * 8 + b) st).2
def statBR (fed : List Nat) (top : Nat) : Nat -> Nat -> Nat -> RSt -> (Nat × Bool) × RSt
 | 0,_,a,st => ((a,true),st)
 | n + 1,b,a,st => if (chainRR false fed top b st).1.2.2 then statBR fed top n (b + 1) (a + (chainRR false fed top b st).1.1) (chainRR false fed top b st).2 else ((0,false),(chainRR false fed top b st).2)
def listBR (fed : List Nat) (top : Nat) : Nat -> Nat -> List (List UInt8) -> RSt -> (List (List UInt8) × Bool) × RSt
 | 0,_,a,st => ((a,true),st)
 | n + 1,b,a,st => if (chainRR true fed top b st).1.2.2 then listBR fed top n (b + 1) (a ++ (chainRR true fed top b st).1.2.1) (chainRR true fed top b st).2 else (([],false),(chainRR true fed top b st).2)
def failsR (c : Nat) : ResP := ⟨c,0,0,0,[],[]⟩
def statR (fed : List Nat) (nd : Nat × Nat × Nat) (st : RSt) : ResP × RSt :=
 if nd.1 = 1 then (if (sizeR fed nd.2.2 st).1.2 then ⟨0,nd.1,nd.2.1,(sizeR fed nd.2.2 st).1.1,[],[]⟩ else failsR 300,(sizeR fed nd.2.2 st).2)
 else (if (statBR fed nd.2.2 7 0 0 st).1.2 then ⟨0,nd.1,nd.2.1,(statBR fed nd.2.2 7 0 0 st).1.1,[],[]⟩ else failsR 300,(statBR fed nd.2.2 7 0 0 st).2)
def listR (fed : List Nat) (nd : Nat × Nat × Nat) (st : RSt) : ResP × RSt :=
 (if (listBR fed nd.2.2 7 0 [] st).1.2 then ⟨0,0,0,0,sortL (listBR fed nd.2.2 7 0 [] st).1.1,[]⟩ else failsR 300,(listBR fed nd.2.2 7 0 [] st).2)
section
variable {fed : List Nat}
theorem loadsR_more (l : List Nat) : ∀ (n p : Nat) (acc : List Nat),(loadsR fed n p acc (l,true)).2 = (l,true)
 | 0,_,_ => rfl
 | n + 1,p,acc => loadsR_more l n (p + 1) _
theorem nameR_more (line : Nat) (l : List Nat) : (nameR fed line (l,true)).2 = (l,true) := by
 simp only [nameR,loadR_more]
 exact loadsR_more l 5 (line * 8 + 3) []
theorem linkR_more (named : Bool) (l : List Nat) : ∀ (fuel x cnt : Nat) (acc : List (List UInt8)),(linkR named fed fuel x cnt acc (l,true)).2 = (l,true)
 | 0,x,cnt,acc => by unfold linkR;split <;> rfl
 | fuel + 1,x,cnt,acc => by
  unfold linkR
  split
  ·rfl
  ·split
   ·rfl
   ·split
    ·have h := nameR_more (fed := fed) x l
     split
     ·rw [h];exact linkR_more named l fuel _ _ _
     ·exact h
    ·exact linkR_more named l fuel _ _ _
theorem chainRR_more (named : Bool) (top b : Nat) (l : List Nat) : (chainRR named fed top b (l,true)).2 = (l,true) := by
 simp only [chainRR,loadR_more]
 exact linkR_more named l 1024 0 0 []
theorem statBR_more (top : Nat) (l : List Nat) : ∀ (n b a : Nat),(statBR fed top n b a (l,true)).2 = (l,true)
 | 0,_,_ => rfl
 | n + 1,b,a => by
  unfold statBR
  have h := chainRR_more (fed := fed) false top b l
  split
  ·rw [h];exact statBR_more top l n _ _
  ·exact h
theorem listBR_more (top : Nat) (l : List Nat) : ∀ (n b : Nat) (a : List (List UInt8)),(listBR fed top n b a (l,true)).2 = (l,true)
 | 0,_,_ => rfl
 | n + 1,b,a => by
  unfold listBR
  have h := chainRR_more (fed := fed) true top b l
  split
  ·rw [h];exact listBR_more top l n _ _
  ·exact h
theorem statR_more (nd : Nat × Nat × Nat) (l : List Nat) : (statR fed nd (l,true)).2 = (l,true) := by
 unfold statR
 by_cases h : nd.1 = 1
 ·simp only [h,if_true,sizeR,loadR_more]
 ·simp only [h,if_false]
  exact statBR_more nd.2.2 l 7 0 0
theorem listR_more (nd : Nat × Nat × Nat) (l : List Nat) : (listR fed nd (l,true)).2 = (l,true) := by
 simp only [listR]
 exact listBR_more nd.2.2 l 7 0 []
theorem size_sim (top : Nat) (ats : List Nat) : Sim (fun a b => b = (a,true)) (fun c b => c = 300 ∧ b.2 = false) (sizeP fed top ats) (sizeR fed top (ats,false)) := by
 refine (load_sim' fed (top * 8) ats).bind (G := fun w ats => if w <= 448 then .val w ats else .stop (.err 300) ats) (H := fun w st => ((min w 999,decide (w <= 448)),st)) (fun a b l e => ?_) (fun _ _ _ h => h.elim) (fun _ _ => rfl)
 subst e
 by_cases h : a <= 448
 ·simp only [h,if_true,decide_true]
  exact ⟨by rw [Nat.min_eq_left (by omega)],rfl⟩
 ·simp only [h,if_false]
  exact ⟨⟨rfl,rfl⟩,rfl⟩
theorem loads_sim : ∀ (n p : Nat) (acc ats : List Nat),Sim (fun a b => a = b) (fun _ _ => False) (loadsP fed n p acc ats) (loadsR fed n p acc (ats,false))
 | 0,_,_,_ => ⟨rfl,rfl⟩
 | n + 1,p,acc,ats => by
  refine (load_sim' fed p ats).bind (G := fun x ats => loadsP fed n (p + 1) (acc ++ [x]) ats) (H := fun x st => loadsR fed n (p + 1) (acc ++ [x]) st) (fun a b l e => ?_) (fun _ _ _ h => h.elim) (fun b l => loadsR_more l n (p + 1) _)
  subst e
  exact loads_sim n (p + 1) _ l
theorem readL_big (f : Nat -> Nat) (many : Nat) : readL f (min many 99 : Nat) = readL f (min many 41 : Nat) := by
 unfold readL
 by_cases h : many <= 41
 ·rw [Nat.min_eq_left (by omega),Nat.min_eq_left h]
 ·rw [if_neg (fun h => by omega),if_neg (fun h => by omega)]
theorem name_sim (line : Nat) (ats : List Nat) : Sim (fun a b => b = (a,true)) (fun c b => c = 300 ∧ b.2 = false) (nameP fed line ats) (nameR fed line (ats,false)) := by
 refine (load_sim' fed (line * 8 + 2) ats).bind (G := fun many ats => (loadsP fed 5 (line * 8 + 3) [] ats).bind fun ws ats => if (readL (fun k => ws.getD k 0) (min many 41 : Nat)).2 = 0 then .val (readL (fun k => ws.getD k 0) (min many 41 : Nat)).1 ats else .stop (.err 300) ats)
  (H := fun many st => (nameOf (loadsR fed 5 (line * 8 + 3) [] st).1 many,(loadsR fed 5 (line * 8 + 3) [] st).2)) (fun a b l e => ?_) (fun _ _ _ h => h.elim) (fun b l => by simp only;exact loadsR_more l 5 (line * 8 + 3) [])
 subst e
 refine (loads_sim 5 (line * 8 + 3) [] l).bind (H := fun ws st => (nameOf ws a,st)) (fun ws b l2 e => ?_) (fun _ _ _ h => h.elim) (fun _ _ => rfl)
 subst e
 unfold nameOf
 rw [readL_big]
 by_cases h : (readL (fun k => ws.getD k 0) (min a 41 : Nat)).2 = 0
 ·simp only [h,if_true]
  exact ⟨rfl,rfl⟩
 ·simp only [h,if_false]
  exact ⟨⟨rfl,beq_eq_false_iff_ne.2 h⟩,rfl⟩
theorem link_big {named : Bool} {fuel x cnt : Nat} {acc : List (List UInt8)} {st : RSt} (h : 1023 < x) : linkR named fed fuel x cnt acc st = ((0,[],false),st) := by
 cases fuel
 ·unfold linkR;rw [if_neg (by omega)]
 ·unfold linkR;rw [if_neg (by omega),if_pos h]
theorem link_zero {named : Bool} {fuel cnt : Nat} {acc : List (List UInt8)} {st : RSt} : linkR named fed fuel 0 cnt acc st = ((cnt,acc,true),st) := by
 cases fuel <;> (unfold linkR;rw [if_pos rfl])
theorem link_count (base : Nat) : ∀ (fuel x cnt : Nat) (acc : List (List UInt8)) (ats : List Nat),Sim (fun a r => r.2.2 = true ∧ a = base + r.1) (fun c r => c = 300 ∧ r.2.2 = false)
  ((pointerP x ats).bind fun line ats => chainE countE fed fuel line (base + cnt) ats) (linkR false fed fuel x cnt acc (ats,false))
 | fuel,x,cnt,acc,ats => by
  by_cases hx : x < 1024
  ·rw [show pointerP x ats = .val x ats by unfold pointerP;rw [if_pos hx]]
   show Sim _ _ (chainE countE fed fuel x (base + cnt) ats) _
   by_cases h0 : x = 0
   ·subst h0
    rw [link_zero]
    cases fuel <;> (unfold chainE;rw [if_pos rfl];exact ⟨⟨rfl,rfl⟩,rfl⟩)
   ·cases fuel with
    | zero =>
     unfold chainE linkR
     rw [if_neg h0,if_neg h0]
     exact ⟨⟨rfl,rfl⟩,rfl⟩
    | succ fuel =>
     unfold chainE linkR
     rw [if_neg h0,if_neg h0,if_neg (by omega)]
     simp only [countE,Res.bind,Bool.false_eq_true,if_false]
     refine (load_sim' fed (x * 8) ats).bind (G := fun y ats => (pointerP y ats).bind fun next ats => chainE countE fed fuel next (base + cnt + 1) ats) (H := fun y st => linkR false fed fuel y (cnt + 1) acc st) (fun a b l e => ?_) (fun _ _ _ h => h.elim) (fun b l => linkR_more false l fuel _ _ _)
     subst e
     exact link_count base fuel a (cnt + 1) acc l
  ·rw [show pointerP x ats = .stop (.err 300) ats by unfold pointerP;rw [if_neg hx],link_big (by omega)]
   exact ⟨⟨rfl,rfl⟩,rfl⟩
 termination_by fuel => fuel
theorem link_names (base : List (List UInt8)) : ∀ (fuel x cnt : Nat) (acc : List (List UInt8)) (ats : List Nat),Sim (fun a r => r.2.2 = true ∧ a = base ++ r.2.1) (fun c r => c = 300 ∧ r.2.2 = false)
  ((pointerP x ats).bind fun line ats => chainE namesE fed fuel line (base ++ acc) ats) (linkR true fed fuel x cnt acc (ats,false))
 | fuel,x,cnt,acc,ats => by
  by_cases hx : x < 1024
  ·rw [show pointerP x ats = .val x ats by unfold pointerP;rw [if_pos hx]]
   show Sim _ _ (chainE namesE fed fuel x (base ++ acc) ats) _
   by_cases h0 : x = 0
   ·subst h0
    rw [link_zero]
    cases fuel <;> (unfold chainE;rw [if_pos rfl];exact ⟨⟨rfl,rfl⟩,rfl⟩)
   ·cases fuel with
    | zero =>
     unfold chainE linkR
     rw [if_neg h0,if_neg h0]
     exact ⟨⟨rfl,rfl⟩,rfl⟩
    | succ fuel =>
     unfold chainE linkR
     rw [if_neg h0,if_neg h0,if_neg (by omega)]
     simp only [if_true]
     have hE : (namesE x (base ++ acc) fed ats).bind (fun a ats => (loadP fed (x * 8 + 0) ats).bind fun x ats => (pointerP x ats).bind fun next ats => chainE namesE fed fuel next a ats) =
       (nameP fed x ats).bind fun s ats => (loadP fed (x * 8 + 0) ats).bind fun x ats => (pointerP x ats).bind fun next ats => chainE namesE fed fuel next (base ++ (acc ++ [s])) ats := by
      unfold namesE
      cases nameP fed x ats with
      | val s l => simp only [Res.bind,List.append_assoc]
      | stop o l => rfl
     rw [hE]
     refine (name_sim x ats).bind (H := fun r st => if r.2 then linkR true fed fuel (loadR fed (x * 8) st).1 (cnt + 1) (acc ++ [r.1]) (loadR fed (x * 8) st).2 else ((0,[],false),st)) (fun s b l e => ?_) (fun c b l e => ?_) (fun b l => ?_)
     ·subst e
      simp only [if_true]
      refine (load_sim' fed (x * 8) l).bind (G := fun y ats => (pointerP y ats).bind fun next ats => chainE namesE fed fuel next (base ++ (acc ++ [s])) ats) (H := fun y st => linkR true fed fuel y (cnt + 1) (acc ++ [s]) st) (fun a b l e => ?_) (fun _ _ _ h => h.elim) (fun b l => linkR_more true l fuel _ _ _)
      subst e
      exact link_names base fuel a (cnt + 1) (acc ++ [s]) l
     ·obtain ⟨h1,h2⟩ := e
      simp only [h2,Bool.false_eq_true,if_false]
      exact ⟨⟨h1,trivial⟩,trivial⟩
     ·split
      ·exact linkR_more true l fuel _ _ _
      ·rfl
  ·rw [show pointerP x ats = .stop (.err 300) ats by unfold pointerP;rw [if_neg hx],link_big (by omega)]
   exact ⟨⟨rfl,rfl⟩,rfl⟩
 termination_by fuel => fuel
theorem statB_sim (top : Nat) : ∀ (n b a : Nat) (ats : List Nat),Sim (fun x r => r = (x,true)) (fun c r => c = 300 ∧ r.2 = false) (bucketsE countE fed top n b a ats) (statBR fed top n b a (ats,false))
 | 0,_,_,_ => ⟨rfl,rfl⟩
 | n + 1,b,a,ats => by
  unfold bucketsE statBR
  have hc : Sim (fun x r => r.2.2 = true ∧ x = a + r.1) (fun c r => c = 300 ∧ r.2.2 = false) ((loadP fed (top * 8 + b) ats).bind fun x ats => (pointerP x ats).bind fun line ats => chainE countE fed 1024 line a ats) (chainRR false fed top b (ats,false)) := by
   refine (load_sim' fed (top * 8 + b) ats).bind (H := fun x st => linkR false fed 1024 x 0 [] st) (fun x y l e => ?_) (fun _ _ _ h => h.elim) (fun y l => linkR_more false l 1024 _ _ _)
   subst e
   exact link_count a 1024 x 0 [] l
  have hE : ((loadP fed (top * 8 + b) ats).bind fun x ats => (pointerP x ats).bind fun line ats => (chainE countE fed 1024 line a ats).bind fun a ats => bucketsE countE fed top n (b + 1) a ats) =
    ((loadP fed (top * 8 + b) ats).bind fun x ats => (pointerP x ats).bind fun line ats => chainE countE fed 1024 line a ats).bind fun a ats => bucketsE countE fed top n (b + 1) a ats := by
   rw [<- bind_again]
   congr 1
   funext x l
   rw [<- bind_again]
  rw [hE]
  refine hc.bind (H := fun r st => if r.2.2 then statBR fed top n (b + 1) (a + r.1) st else ((0,false),st)) (fun x r l e => ?_) (fun c r l e => ?_) (fun r l => ?_)
  ·obtain ⟨h1,rfl⟩ := e
   simp only [h1,if_true]
   exact statB_sim top n (b + 1) _ l
  ·obtain ⟨h1,h2⟩ := e
   simp only [h2,Bool.false_eq_true,if_false]
   exact ⟨⟨h1,trivial⟩,trivial⟩
  ·split
   ·exact statBR_more top l n _ _
   ·rfl
theorem listB_sim (top : Nat) : ∀ (n b : Nat) (a : List (List UInt8)) (ats : List Nat),Sim (fun x r => r = (x,true)) (fun c r => c = 300 ∧ r.2 = false) (bucketsE namesE fed top n b a ats) (listBR fed top n b a (ats,false))
 | 0,_,_,_ => ⟨rfl,rfl⟩
 | n + 1,b,a,ats => by
  unfold bucketsE listBR
  have hc : Sim (fun x r => r.2.2 = true ∧ x = a ++ r.2.1) (fun c r => c = 300 ∧ r.2.2 = false) ((loadP fed (top * 8 + b) ats).bind fun x ats => (pointerP x ats).bind fun line ats => chainE namesE fed 1024 line a ats) (chainRR true fed top b (ats,false)) := by
   refine (load_sim' fed (top * 8 + b) ats).bind (H := fun x st => linkR true fed 1024 x 0 [] st) (fun x y l e => ?_) (fun _ _ _ h => h.elim) (fun y l => linkR_more true l 1024 _ _ _)
   subst e
   have := link_names (fed := fed) a 1024 x 0 [] l
   rwa [List.append_nil] at this
  have hE : ((loadP fed (top * 8 + b) ats).bind fun x ats => (pointerP x ats).bind fun line ats => (chainE namesE fed 1024 line a ats).bind fun a ats => bucketsE namesE fed top n (b + 1) a ats) =
    ((loadP fed (top * 8 + b) ats).bind fun x ats => (pointerP x ats).bind fun line ats => chainE namesE fed 1024 line a ats).bind fun a ats => bucketsE namesE fed top n (b + 1) a ats := by
   rw [<- bind_again]
   congr 1
   funext x l
   rw [<- bind_again]
  rw [hE]
  refine hc.bind (H := fun r st => if r.2.2 then listBR fed top n (b + 1) (a ++ r.2.1) st else (([],false),st)) (fun x r l e => ?_) (fun c r l e => ?_) (fun r l => ?_)
  ·obtain ⟨h1,rfl⟩ := e
   simp only [h1,if_true]
   exact listB_sim top n (b + 1) _ l
  ·obtain ⟨h1,h2⟩ := e
   simp only [h2,Bool.false_eq_true,if_false]
   exact ⟨⟨h1,trivial⟩,trivial⟩
  ·split
   ·exact listBR_more top l n _ _
   ·rfl
abbrev Same1 (a b : ResP) : Prop := b = a
abbrev Fails1 (c : Nat) (b : ResP) : Prop := b = failsR c
theorem stat_sim (nd : Nat × Nat × Nat) (ats : List Nat) : Sim Same1 Fails1 (statE fed nd ats) (statR fed nd (ats,false)) := by
 unfold statE statR
 by_cases h : nd.1 = 1
 ·rw [if_pos h,if_pos h]
  refine (size_sim nd.2.2 ats).bind (H := fun r st => (if r.2 then ⟨0,nd.1,nd.2.1,r.1,[],[]⟩ else failsR 300,st)) (fun x r l e => ?_) (fun c r l e => ?_) (fun _ _ => rfl)
  ·subst e;exact ⟨rfl,rfl⟩
  ·obtain ⟨rfl,h2⟩ := e
   simp only [h2,Bool.false_eq_true,if_false]
   exact ⟨trivial,trivial⟩
 ·rw [if_neg h,if_neg h]
  refine (statB_sim nd.2.2 7 0 0 ats).bind (H := fun r st => (if r.2 then ⟨0,nd.1,nd.2.1,r.1,[],[]⟩ else failsR 300,st)) (fun x r l e => ?_) (fun c r l e => ?_) (fun _ _ => rfl)
  ·subst e;exact ⟨rfl,rfl⟩
  ·obtain ⟨rfl,h2⟩ := e
   simp only [h2,Bool.false_eq_true,if_false]
   exact ⟨trivial,trivial⟩
theorem list_sim (nd : Nat × Nat × Nat) (ats : List Nat) (h2 : nd.1 = 2) : Sim Same1 Fails1 (listE fed nd ats) (listR fed nd (ats,false)) := by
 unfold listE listR
 rw [if_pos h2]
 refine (listB_sim nd.2.2 7 0 [] ats).bind (H := fun r st => (if r.2 then ⟨0,0,0,0,sortL r.1,[]⟩ else failsR 300,st)) (fun x r l e => ?_) (fun c r l e => ?_) (fun _ _ => rfl)
 ·subst e;exact ⟨rfl,rfl⟩
 ·obtain ⟨rfl,h2⟩ := e
  simp only [h2,Bool.false_eq_true,if_false]
  exact ⟨trivial,trivial⟩
end
end
section
open Go.RowKit
theorem byte8_get (a j : Nat) : (byte8 a)[j]? = if j < 8 then some (byteOf a j) else none := by
 unfold byte8
 rw [List.getElem?_map]
 by_cases h : j < 8
 ·rw [if_pos h,List.getElem?_range h];rfl
 ·rw [if_neg h,List.getElem?_eq_none (by simpa using h)];rfl
theorem chunkB_length : ∀ (l : List Nat),(chunkB l).length = 8 * l.length
 | [] => rfl
 | x :: l => by
  have := chunkB_length l
  unfold chunkB at this ⊢
  rw [List.flatMap_cons,List.length_append,byte8_length,this,List.length_cons];omega
theorem chunkB_get : ∀ (l : List Nat) (j : Nat),j < 8 * l.length -> (chunkB l)[j]? = some (UInt8.ofNat (byteW l j))
 | [],j,h => absurd h (by simp)
 | x :: l,j,h => by
  show ((x :: l).flatMap byte8)[j]? = _
  rw [List.flatMap_cons]
  by_cases hj : j < 8
  ·rw [List.getElem?_append_left (by rw [byte8_length];exact hj),byte8_get,if_pos hj]
   unfold byteW byteOf
   rw [show j / 8 = 0 by omega,show j % 8 = j by omega]
   congr 1
   show UInt8.ofNat _ = UInt8.ofNat (_ % 256)
   apply UInt8.toNat_inj.1
   simp
  ·rw [List.getElem?_append_right (by rw [byte8_length];omega),byte8_length]
   have ih := chunkB_get l (j - 8) (by rw [List.length_cons] at h;omega)
   unfold chunkB at ih
   rw [ih]
   unfold byteW
   rw [show j / 8 = (j - 8) / 8 + 1 by omega,show j % 8 = (j - 8) % 8 by omega,List.getD_cons_succ]
def cutB (size a n : Nat) (l : List (List Nat)) : List UInt8 := (((l.flatMap chunkB).take size).drop a).take n
def fromN (a k : Nat) : Nat := max a (64 * k)
def untilN (size a n k : Nat) : Nat := min (min size (64 * k + 64)) (a + n)
def sliceB (ws : List Nat) (k a b : Nat) : List UInt8 := (List.range (b - a)).map fun i => UInt8.ofNat (byteW ws (a + i - 64 * k))
theorem flat_length : ∀ (l : List (List Nat)),(∀ x ∈ l,x.length = 8) -> (l.flatMap chunkB).length = 64 * l.length
 | [],_ => rfl
 | x :: l,h => by
  rw [List.flatMap_cons,List.length_append,chunkB_length,h x (by simp),flat_length l (fun y hy => h y (by simp [hy])),List.length_cons];omega
theorem cutB_get (size a n : Nat) (B : List UInt8) (i : Nat) : (((B.take size).drop a).take n)[i]? = if i < n ∧ a + i < size then B[a + i]? else none := by
 rw [List.getElem?_take]
 by_cases h : i < n
 ·rw [if_pos h,List.getElem?_drop,List.getElem?_take]
  by_cases h2 : a + i < size
  ·rw [if_pos h2,if_pos ⟨h,h2⟩]
  ·rw [if_neg h2,if_neg (fun h3 => h2 h3.2)]
 ·rw [if_neg h,if_neg (fun h3 => h h3.1)]
theorem sliceB_get (ws : List Nat) (k a b i : Nat) : (sliceB ws k a b)[i]? = if i < b - a then some (UInt8.ofNat (byteW ws (a + i - 64 * k))) else none := by
 unfold sliceB
 rw [List.getElem?_map]
 by_cases h : i < b - a
 ·rw [if_pos h,List.getElem?_range h];rfl
 ·rw [if_neg h,List.getElem?_eq_none (by simpa using h)];rfl
theorem cutB_snoc (size a n : Nat) (l : List (List Nat)) (c : List Nat) (hl : ∀ x ∈ l,x.length = 8) (hc : c.length = 8) :
  cutB size a n (l ++ [c]) = cutB size a n l ++ (if untilN size a n l.length <= fromN a l.length then [] else sliceB c l.length (fromN a l.length) (untilN size a n l.length)) := by
 have hB := flat_length l hl
 have hC : (chunkB c).length = 64 := by rw [chunkB_length,hc]
 have hlen : (cutB size a n l).length = min n (min size (64 * l.length) - a) := by
  unfold cutB
  rw [List.length_take,List.length_drop,List.length_take,hB]
 unfold fromN untilN
 apply List.ext_getElem?
 intro i
 have e1 : (cutB size a n (l ++ [c]))[i]? = if i < n ∧ a + i < size then (l.flatMap chunkB ++ chunkB c)[a + i]? else none := by
  unfold cutB
  rw [cutB_get,List.flatMap_append,List.flatMap_cons,List.flatMap_nil,List.append_nil]
 have e2 : (cutB size a n l)[i]? = if i < n ∧ a + i < size then (l.flatMap chunkB)[a + i]? else none := by unfold cutB;rw [cutB_get]
 rw [e1]
 by_cases hi : i < (cutB size a n l).length
 ·rw [List.getElem?_append_left hi,e2]
  rw [hlen] at hi
  rw [List.getElem?_append_left (l₁ := l.flatMap chunkB) (by rw [hB];omega)]
 ·rw [List.getElem?_append_right (l₁ := cutB size a n l) (by omega)]
  rw [hlen] at hi ⊢
  by_cases hu : min (min size (64 * l.length + 64)) (a + n) <= max a (64 * l.length)
  ·rw [if_pos hu,List.getElem?_nil]
   by_cases h2 : i < n ∧ a + i < size
   ·rw [if_pos h2]
    exact List.getElem?_eq_none (by rw [List.length_append,hB,hC];omega)
   ·rw [if_neg h2]
  ·rw [if_neg hu,sliceB_get]
   by_cases h2 : i < n ∧ a + i < size
   ·rw [if_pos h2]
    by_cases h3 : a + i < 64 * l.length + 64
    ·rw [if_pos (by omega),List.getElem?_append_right (l₁ := l.flatMap chunkB) (by rw [hB];omega),hB,chunkB_get c _ (by rw [hc];omega)]
     congr 3
     omega
    ·rw [if_neg (by omega)]
     exact List.getElem?_eq_none (by rw [List.length_append,hB,hC];omega)
   ·rw [if_neg h2,if_neg (by omega)]
def readBR (fed : List Nat) (top size a n : Nat) : Nat -> Nat -> List UInt8 -> RSt -> (List UInt8 × Bool) × RSt
 | 0,_,acc,st => ((acc,true),st)
 | c + 1,k,acc,st => if untilN size a n k <= fromN a k then readBR fed top size a n c (k + 1) acc st else
  if 1023 < (loadR fed (top * 8 + (1 + k)) st).1 then (([],false),(loadR fed (top * 8 + (1 + k)) st).2) else
  if (loadR fed (top * 8 + (1 + k)) st).1 = 0 then readBR fed top size a n c (k + 1) (acc ++ sliceB (List.replicate 8 0) k (fromN a k) (untilN size a n k)) (loadR fed (top * 8 + (1 + k)) st).2
  else readBR fed top size a n c (k + 1) (acc ++ sliceB (loadsR fed 8 ((loadR fed (top * 8 + (1 + k)) st).1 * 8) [] (loadR fed (top * 8 + (1 + k)) st).2).1 k (fromN a k) (untilN size a n k)) (loadsR fed 8 ((loadR fed (top * 8 + (1 + k)) st).1 * 8) [] (loadR fed (top * 8 + (1 + k)) st).2).2
def readRR (fed : List Nat) (top a n : Nat) (st : RSt) : ResP × RSt :=
 if (sizeR fed top st).1.2 then (if (readBR fed top (sizeR fed top st).1.1 a n 7 0 [] (sizeR fed top st).2).1.2 then ⟨0,0,0,0,[],(readBR fed top (sizeR fed top st).1.1 a n 7 0 [] (sizeR fed top st).2).1.1⟩ else failsR 300,(readBR fed top (sizeR fed top st).1.1 a n 7 0 [] (sizeR fed top st).2).2)
 else (failsR 300,(sizeR fed top st).2)
section
variable {fed : List Nat}
theorem readBR_more (top size a n : Nat) (l : List Nat) : ∀ (c k : Nat) (acc : List UInt8),(readBR fed top size a n c k acc (l,true)).2 = (l,true)
 | 0,_,_ => rfl
 | c + 1,k,acc => by
  unfold readBR
  simp only [loadR_more]
  split
  ·exact readBR_more top size a n l c _ _
  ·split
   ·rfl
   ·split
    ·exact readBR_more top size a n l c _ _
    ·rw [loadsR_more];exact readBR_more top size a n l c _ _
theorem readBR_rest (top size a n : Nat) (st : RSt) : ∀ (c k : Nat) (acc : List UInt8),(size + 63) / 64 <= k -> readBR fed top size a n c k acc st = ((acc,true),st)
 | 0,_,_,_ => rfl
 | c + 1,k,acc,h => by
  unfold readBR
  rw [if_pos (by unfold untilN fromN;omega)]
  exact readBR_rest top size a n st c (k + 1) acc (by omega)
theorem loadsR_length : ∀ (n p : Nat) (acc : List Nat) (st : RSt),(loadsR fed n p acc st).1.length = acc.length + n
 | 0,_,_,_ => rfl
 | n + 1,p,acc,st => by
  show (loadsR fed n (p + 1) _ _).1.length = _
  rw [loadsR_length n (p + 1) _ _,List.length_append];simp;omega
theorem Sim.keep {α β : Type} {rel : α -> β -> Prop} {bad : Nat -> β -> Prop} {P : Res α} {Q : β × RSt} {p : β -> Prop} (h : Sim rel bad P Q) (hp : p Q.1) : Sim (fun a b => rel a b ∧ p b) bad P Q := by
 cases P with
 | val a l => exact ⟨⟨h.1,hp⟩,h.2⟩
 | stop o l => cases o <;> exact h
theorem read_sim (top size a n : Nat) : ∀ (c k : Nat) (l : List (List Nat)) (ats : List Nat),k + c = (size + 63) / 64 -> l.length = k -> (∀ x ∈ l,x.length = 8) -> size <= 448 ->
  Sim (fun L r => r = (cutB size a n L,true)) (fun e r => e = 300 ∧ r.2 = false) (partsP (wantedB size a n) fed top c k l ats) (readBR fed top size a n (7 - k) k (cutB size a n l) (ats,false))
 | 0,k,l,ats,hk,hl,h8,hs => by
  unfold partsP
  rw [readBR_rest top size a n _ _ k _ (by omega)]
  exact ⟨rfl,rfl⟩
 | c + 1,k,l,ats,hk,hl,h8,hs => by
  obtain ⟨f,hf⟩ : ∃ f,7 - k = f + 1 := ⟨6 - k,by omega⟩
  have hf2 : 7 - (k + 1) = f := by omega
  have hw : wantedB size a n k = !decide (untilN size a n k <= fromN a k) := by
   unfold wantedB readLen untilN fromN
   rw [Bool.eq_iff_iff]
   simp only [decide_eq_true_eq,Bool.not_eq_true',decide_eq_false_iff_not]
   omega
  rw [hf]
  unfold partsP readBR
  by_cases hu : untilN size a n k <= fromN a k
  ·rw [hw,if_pos hu,decide_eq_true hu]
   simp only [Bool.not_true,Bool.false_eq_true,if_false]
   have ih := read_sim top size a n c (k + 1) (l ++ [List.replicate 8 0]) ats (by omega) (by simp [hl]) (fun x hx => by rcases List.mem_append.1 hx with hx | hx;exact h8 x hx;rw [List.mem_singleton.1 hx];simp) hs
   rw [cutB_snoc size a n l _ h8 (by simp),hl,if_pos hu,List.append_nil,hf2] at ih
   exact ih
  ·rw [hw,if_neg hu,decide_eq_false hu]
   simp only [Bool.not_false,if_true]
   have hE : (partP fed top k ats).bind (fun x ats => partsP (wantedB size a n) fed top c (k + 1) (l ++ [x]) ats) =
     (loadP fed (top * 8 + (1 + k)) ats).bind fun x ats => ((pointerP x ats).bind fun p ats => if p = 0 then .val (List.replicate 8 0) ats else loadsP fed 8 (p * 8) [] ats).bind fun x ats => partsP (wantedB size a n) fed top c (k + 1) (l ++ [x]) ats := by
    unfold partP
    rw [<- bind_again]
   rw [hE]
   refine (load_sim' fed (top * 8 + (1 + k)) ats).bind (H := fun p st => if 1023 < p then (([],false),st) else if p = 0 then readBR fed top size a n f (k + 1) (cutB size a n l ++ sliceB (List.replicate 8 0) k (fromN a k) (untilN size a n k)) st
    else readBR fed top size a n f (k + 1) (cutB size a n l ++ sliceB (loadsR fed 8 (p * 8) [] st).1 k (fromN a k) (untilN size a n k)) (loadsR fed 8 (p * 8) [] st).2) (fun x y ats' e => ?_) (fun _ _ _ h => h.elim) (fun y ats' => ?_)
   ·subst e
    unfold pointerP
    by_cases hp : x < 1024
    ·rw [if_pos hp,if_neg (by omega)]
     simp only [Res.bind]
     by_cases h0 : x = 0
     ·rw [if_pos h0,if_pos h0]
      have ih := read_sim top size a n c (k + 1) (l ++ [List.replicate 8 0]) ats' (by omega) (by simp [hl]) (fun x hx => by rcases List.mem_append.1 hx with hx | hx;exact h8 x hx;rw [List.mem_singleton.1 hx];simp) hs
      rw [cutB_snoc size a n l _ h8 (by simp),hl,if_neg hu,hf2] at ih
      exact ih
     ·rw [if_neg h0,if_neg h0]
      have hsim : Sim (fun L r => r = (cutB size a n L,true)) (fun e r => e = 300 ∧ r.2 = false) ((loadsP fed 8 (x * 8) [] ats').bind fun y ats => partsP (wantedB size a n) fed top c (k + 1) (l ++ [y]) ats)
        (readBR fed top size a n f (k + 1) (cutB size a n l ++ sliceB (loadsR fed 8 (x * 8) [] (ats',false)).1 k (fromN a k) (untilN size a n k)) (loadsR fed 8 (x * 8) [] (ats',false)).2) := by
       have h8l := loadsR_length (fed := fed) 8 (x * 8) [] (ats',false)
       have hls := loads_sim (fed := fed) 8 (x * 8) [] ats'
       revert h8l hls
       generalize loadsR fed 8 (x * 8) [] (ats',false) = q
       intro h8l hls
       refine (hls.keep (p := fun b => b.length = 8) (by simpa using h8l)).bind (H := fun ws st => readBR fed top size a n f (k + 1) (cutB size a n l ++ sliceB ws k (fromN a k) (untilN size a n k)) st) (fun ws b ats'' e => ?_) (fun _ _ _ h => h.elim) (fun b ats'' => readBR_more _ _ _ _ _ _ _ _)
       obtain ⟨rfl,hw8⟩ := e
       have ih := read_sim top size a n c (k + 1) (l ++ [ws]) ats'' (by omega) (by simp [hl]) (fun x hx => by rcases List.mem_append.1 hx with hx | hx;exact h8 x hx;rw [List.mem_singleton.1 hx];exact hw8) hs
       rw [cutB_snoc size a n l _ h8 hw8,hl,if_neg hu,hf2] at ih
       exact ih
      exact hsim
    ·rw [if_neg hp,if_pos (by omega)]
     exact ⟨⟨rfl,rfl⟩,rfl⟩
   ·split
    ·rfl
    ·split
     ·exact readBR_more _ _ _ _ _ _ _ _
     ·rw [loadsR_more];exact readBR_more _ _ _ _ _ _ _ _
theorem size_simE (top : Nat) (ats : List Nat) : Sim (fun a b => b = (a,true) ∧ a <= 448) (fun c b => c = 300 ∧ b.2 = false) (sizeP fed top ats) (sizeR fed top (ats,false)) := by
 refine (load_sim' fed (top * 8) ats).bind (G := fun w ats => if w <= 448 then .val w ats else .stop (.err 300) ats) (H := fun w st => ((min w 999,decide (w <= 448)),st)) (fun a b l e => ?_) (fun _ _ _ h => h.elim) (fun _ _ => rfl)
 subst e
 by_cases h : a <= 448
 ·simp only [h,if_true,decide_true]
  exact ⟨⟨by rw [Nat.min_eq_left (by omega)],h⟩,rfl⟩
 ·simp only [h,if_false]
  exact ⟨⟨rfl,rfl⟩,rfl⟩
theorem read_simE (top a n : Nat) (ats : List Nat) : Sim Same1 Fails1 (readE fed top a n ats) (readRR fed top a n (ats,false)) := by
 unfold readE readRR
 refine (size_simE top ats).bind (H := fun r st => if r.2 then (if (readBR fed top r.1 a n 7 0 [] st).1.2 then ⟨0,0,0,0,[],(readBR fed top r.1 a n 7 0 [] st).1.1⟩ else failsR 300,(readBR fed top r.1 a n 7 0 [] st).2) else (failsR 300,st)) (fun size r l e => ?_) (fun c r l e => ?_) (fun r l => ?_)
 ·obtain ⟨rfl,hs⟩ := e
  simp only [if_true]
  ·have h := read_sim (fed := fed) top size a n ((size + 63) / 64) 0 [] l (by omega) rfl (by simp) hs
   have e0 : cutB size a n [] = [] := by simp [cutB]
   rw [e0] at h
   refine h.bind (H := fun r st => (if r.2 then ⟨0,0,0,0,[],r.1⟩ else failsR 300,st)) (fun L r l e => ?_) (fun c r l e => ?_) (fun _ _ => rfl)
   ·subst e;exact ⟨rfl,rfl⟩
   ·obtain ⟨rfl,h2⟩ := e
    simp only [h2,Bool.false_eq_true,if_false]
    exact ⟨trivial,trivial⟩
 ·obtain ⟨rfl,h2⟩ := e
  simp only [h2,Bool.false_eq_true,if_false]
  exact ⟨trivial,trivial⟩
 ·split
  ·exact readBR_more _ _ _ _ _ _ _ _
  ·rfl
end
end
end Go.Proofs.YtdpooagnbmpinaaGreatDoor
