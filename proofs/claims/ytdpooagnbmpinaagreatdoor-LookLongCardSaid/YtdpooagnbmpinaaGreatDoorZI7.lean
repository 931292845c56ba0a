import Derived.Test.YtdpooagnbmpinaaGreatDoorZI6
import Derived.Test.YtdpooagnbmpinaaGreatDoorZGZ
namespace Go.Proofs.YtdpooagnbmpinaaGreatDoor
section
open Go.RowKit
section
variable {fed : List Nat}
theorem loadR_sim (p : Nat) (ats : List Nat) : (∃ x l,loadP fed p ats = .val x l ∧ loadR fed p (ats,false) = (x,(l,false))) ∨ (∃ l,loadP fed p ats = .stop (.need p) l ∧ loadR fed p (ats,false) = (0,(l,true))) := by
 unfold loadP loadR
 cases h : fed[ats.length]? with
 | some x => exact .inl ⟨x,_,rfl,by simp [h]⟩
 | none => exact .inr ⟨_,rfl,by simp [h]⟩
theorem fitsWR_more (line : Nat) (l : List Nat) : ∀ (ws : List Nat) (k : Nat),(fitsWR fed line ws k (l,true)).2 = (l,true)
 | [],_ => rfl
 | x :: ws,k => by
  unfold fitsWR
  split
  ·exact fitsWR_more line l ws (k + 1)
  ·rfl
theorem fitsR_more (line : Nat) (s : List UInt8) (l : List Nat) : (fitsR fed line s (l,true)).2 = (l,true) := by
 unfold fitsR
 split
 ·exact fitsWR_more line l _ 0
 ·rfl
theorem chainR_more (s : List UInt8) (l : List Nat) : ∀ (fuel x : Nat),(chainR fed s fuel x (l,true)).2 = (l,true)
 | 0,x => by unfold chainR;split <;> rfl
 | fuel + 1,x => by
  unfold chainR
  split
  ·rfl
  ·split
   ·rfl
   ·have h := fitsR_more (fed := fed) x s l
    rw [h]
    split
    ·split <;> rfl
    ·exact chainR_more s l fuel _
theorem findR_more (top : Nat) (s : List UInt8) (l : List Nat) : (findR fed top s (l,true)).2 = (l,true) := chainR_more s l 1024 _
theorem walkLR_more (l : List Nat) : ∀ (names : List (List UInt8)) (line : Nat) (n : Nat × Nat × Nat),(walkLR fed names line n (l,true)).2 = (l,true)
 | [],_,_ => rfl
 | s :: names,line,n => by
  unfold walkLR
  have h := findR_more (fed := fed) n.2.2 s l
  split
  ·rfl
  ·split
   ·exact h
   ·rw [h]
    split
    ·exact walkLR_more l names _ _
    ·rfl
def SimE (line : Nat) (ats : List Nat) : Prop :=
 match enterP fed line ats with
 | .val n l => enterR fed line (ats,false) = ((n,true),(l,false))
 | .stop (.err c) l => c = 300 ∧ enterR fed line (ats,false) = (((0,0,0),false),(l,false))
 | .stop (.need _) l => (enterR fed line (ats,false)).2 = (l,true)
theorem enter_sim (line : Nat) (ats : List Nat) : SimE (fed := fed) line ats := by
 unfold SimE enterP
 rw [show line * 8 + 0 = line * 8 from rfl]
 rcases loadR_sim (fed := fed) (line * 8) ats with ⟨k,l,h1,h2⟩ | ⟨l,h1,h2⟩
 ·rw [h1]
  show match (loadP fed (line * 8 + 1) l).bind fun t ats => match nodeP k t with | some n => .val n ats | none => .stop (.err 300) ats with
   | .val n l => _ | .stop (.err c) l => _ | .stop (.need _) l => _
  rcases loadR_sim (fed := fed) (line * 8 + 1) l with ⟨t,l',h3,h4⟩ | ⟨l',h3,h4⟩
  ·rw [h3]
   show match (match nodeP k t with | some n => (Res.val n l' : Res (Nat × Nat × Nat)) | none => .stop (.err 300) l') with
    | .val n l => _ | .stop (.err c) l => _ | .stop (.need _) l => _
   have he : enterR fed line (ats,false) = (getN k t,(l',false)) := by unfold enterR;rw [h2,h4]
   unfold getN at he
   cases hn : nodeP k t with
   | some n => rw [hn] at he;exact he
   | none => rw [hn] at he;exact ⟨rfl,he⟩
  ·rw [h3]
   show (enterR fed line (ats,false)).2 = (l',true)
   unfold enterR
   rw [h2,h4]
 ·rw [h1]
  show (enterR fed line (ats,false)).2 = (l,true)
  unfold enterR
  rw [h2]
  rfl
def SimFW (line : Nat) (ws : List Nat) (k : Nat) (ats : List Nat) : Prop :=
 match fitsW fed line ws k ats with
 | .val b l => fitsWR fed line ws k (ats,false) = (b,(l,false))
 | .stop (.err _) _ => False
 | .stop (.need _) l => (fitsWR fed line ws k (ats,false)).2 = (l,true)
theorem fitsW_sim (line : Nat) : ∀ (ws : List Nat) (k : Nat) (ats : List Nat),SimFW (fed := fed) line ws k ats
 | [],_,_ => rfl
 | x :: ws,k,ats => by
  unfold SimFW fitsW
  rcases loadR_sim (fed := fed) (line * 8 + (3 + k)) ats with ⟨y,l,h1,h2⟩ | ⟨l,h1,h2⟩
  ·rw [h1]
   show match (if y = x then fitsW fed line ws (k + 1) l else .val false l) with
    | .val b l => _ | .stop (.err _) _ => _ | .stop (.need _) l => _
   have he : fitsWR fed line (x :: ws) k (ats,false) = if y = x then fitsWR fed line ws (k + 1) (l,false) else (false,(l,false)) := by
    conv => lhs;unfold fitsWR
    rw [h2]
   rw [he]
   by_cases hyx : y = x
   ·rw [if_pos hyx,if_pos hyx]
    exact fitsW_sim line ws (k + 1) l
   ·rw [if_neg hyx,if_neg hyx]
  ·rw [h1]
   show (fitsWR fed line (x :: ws) k (ats,false)).2 = (l,true)
   unfold fitsWR
   rw [h2]
   simp only
   split
   ·exact fitsWR_more line l ws (k + 1)
   ·rfl
def SimF (line : Nat) (s : List UInt8) (ats : List Nat) : Prop :=
 match fitsP fed line s ats with
 | .val b l => fitsR fed line s (ats,false) = (b,(l,false))
 | .stop (.err _) _ => False
 | .stop (.need _) l => (fitsR fed line s (ats,false)).2 = (l,true)
theorem fits_sim (line : Nat) (s : List UInt8) (ats : List Nat) : SimF (fed := fed) line s ats := by
 unfold SimF fitsP
 rcases loadR_sim (fed := fed) (line * 8 + 2) ats with ⟨y,l,h1,h2⟩ | ⟨l,h1,h2⟩
 ·rw [h1]
  show match (if y = s.length then fitsW fed line (wordsN s) 0 l else .val false l) with
   | .val b l => _ | .stop (.err _) _ => _ | .stop (.need _) l => _
  have he : fitsR fed line s (ats,false) = if y = s.length then fitsWR fed line (wordsN s) 0 (l,false) else (false,(l,false)) := by
   unfold fitsR
   rw [h2]
  rw [he]
  by_cases hyx : y = s.length
  ·rw [if_pos hyx,if_pos hyx]
   exact fitsW_sim line (wordsN s) 0 l
  ·rw [if_neg hyx,if_neg hyx]
 ·rw [h1]
  show (fitsR fed line s (ats,false)).2 = (l,true)
  unfold fitsR
  rw [h2]
  simp only
  split
  ·exact fitsWR_more line l _ 0
  ·rfl
def SimC (s : List UInt8) (fuel x : Nat) (ats : List Nat) : Prop :=
 match (pointerP x ats).bind fun line ats => chainP fed s fuel line ats with
 | .val n l => chainR fed s fuel x (ats,false) = ((n,0),(l,false))
 | .stop (.err c) l => c ≠ 0 ∧ chainR fed s fuel x (ats,false) = ((0,c),(l,false))
 | .stop (.need _) l => (chainR fed s fuel x (ats,false)).2 = (l,true)
theorem chain_sim (s : List UInt8) : ∀ (fuel x : Nat) (ats : List Nat),SimC (fed := fed) s fuel x ats
 | 0,x,ats => by
  unfold SimC pointerP
  by_cases h : x < 1024
  ·rw [if_pos h]
   show match chainP fed s 0 x ats with | .val n l => _ | .stop (.err c) l => _ | .stop (.need _) l => _
   unfold chainP chainR
   by_cases h0 : x = 0
   ·rw [if_pos h0,if_pos h0];exact ⟨by decide,rfl⟩
   ·rw [if_neg h0,if_neg h0];exact ⟨by decide,rfl⟩
  ·rw [if_neg h]
   exact ⟨by decide,chainR_big (by omega)⟩
 | fuel + 1,x,ats => by
  unfold SimC pointerP
  by_cases h : x < 1024
  ·rw [if_pos h]
   show match chainP fed s (fuel + 1) x ats with | .val n l => _ | .stop (.err c) l => _ | .stop (.need _) l => _
   by_cases h0 : x = 0
   ·subst h0
    rw [show chainP fed s (fuel + 1) 0 ats = .stop (.err 202) ats by unfold chainP;rw [if_pos rfl]]
    exact ⟨by decide,chainR_zero⟩
   ·have hR : ∀ st,chainR fed s (fuel + 1) x st = if (fitsR fed x s st).1 then
      (if (loadR fed (x * 8 + 1) (fitsR fed x s st).2).1 = 0 ∨ 1023 < (loadR fed (x * 8 + 1) (fitsR fed x s st).2).1 then ((0,300),(loadR fed (x * 8 + 1) (fitsR fed x s st).2).2)
      else (((loadR fed (x * 8 + 1) (fitsR fed x s st).2).1,0),(loadR fed (x * 8 + 1) (fitsR fed x s st).2).2))
     else chainR fed s fuel (loadR fed (x * 8) (fitsR fed x s st).2).1 (loadR fed (x * 8) (fitsR fed x s st).2).2 := fun st => by
     conv => lhs;unfold chainR
     rw [if_neg h0,if_neg (by omega)]
    have hP : chainP fed s (fuel + 1) x ats = (fitsP fed x s ats).bind fun is ats => if is then (loadP fed (x * 8 + 1) ats).bind someP
      else (loadP fed (x * 8 + 0) ats).bind fun x ats => (pointerP x ats).bind fun next ats => chainP fed s fuel next ats := by
     conv => lhs;unfold chainP
     rw [if_neg h0]
    rw [hP,hR]
    have hF := fits_sim (fed := fed) x s ats
    unfold SimF at hF
    cases hf : fitsP fed x s ats with
    | val is l =>
     rw [hf] at hF
     simp only at hF
     rw [hF]
     simp only
     cases is
     ·show match (loadP fed (x * 8 + 0) l).bind fun x ats => (pointerP x ats).bind fun next ats => chainP fed s fuel next ats with | .val n l => _ | .stop (.err c) l => _ | .stop (.need _) l => _
      rw [show x * 8 + 0 = x * 8 from rfl,if_neg (by simp)]
      rcases loadR_sim (fed := fed) (x * 8) l with ⟨y,l',h1,h2⟩ | ⟨l',h1,h2⟩
      ·rw [h1,h2]
       exact chain_sim s fuel y l'
      ·rw [h1,h2]
       exact chainR_more s l' fuel 0
     ·show match (loadP fed (x * 8 + 1) l).bind someP with | .val n l => _ | .stop (.err c) l => _ | .stop (.need _) l => _
      rw [if_pos rfl]
      rcases loadR_sim (fed := fed) (x * 8 + 1) l with ⟨y,l',h1,h2⟩ | ⟨l',h1,h2⟩
      ·rw [h1,h2]
       show match someP y l' with | .val n l => _ | .stop (.err c) l => _ | .stop (.need _) l => _
       unfold someP pointerP
       by_cases hy : y = 0
       ·rw [if_pos hy]
        exact ⟨by decide,if_pos (.inl hy)⟩
       ·rw [if_neg hy]
        by_cases hy2 : y < 1024
        ·rw [if_pos hy2]
         exact if_neg (by show ¬ (y = 0 ∨ 1023 < y);omega)
        ·rw [if_neg hy2]
         exact ⟨by decide,if_pos (.inr (by show 1023 < y;omega))⟩
      ·rw [h1,h2]
       show (if (0 : Nat) = 0 ∨ 1023 < 0 then (((0,300) : Nat × Nat),((l',true) : RSt)) else ((0,0),(l',true))).2 = (l',true)
       rfl
    | stop o l =>
     rw [hf] at hF
     cases o with
     | err c => exact hF.elim
     | need p =>
      simp only at hF
      show (if (fitsR fed x s (ats,false)).1 then _ else _ : (Nat × Nat) × RSt).2 = (l,true)
      rw [hF]
      split
      ·split <;> rfl
      ·exact chainR_more s l fuel _
  ·rw [if_neg h]
   exact ⟨by decide,chainR_big (by omega)⟩
def SimD (top : Nat) (s : List UInt8) (ats : List Nat) : Prop :=
 match findP fed top s ats with
 | .val n l => findR fed top s (ats,false) = ((n,0),(l,false))
 | .stop (.err c) l => c ≠ 0 ∧ findR fed top s (ats,false) = ((0,c),(l,false))
 | .stop (.need _) l => (findR fed top s (ats,false)).2 = (l,true)
theorem find_sim (top : Nat) (s : List UInt8) (ats : List Nat) : SimD (fed := fed) top s ats := by
 unfold SimD findP findR
 rcases loadR_sim (fed := fed) (top * 8 + bucketN s) ats with ⟨y,l,h1,h2⟩ | ⟨l,h1,h2⟩
 ·rw [h1,h2]
  exact chain_sim s 1024 y l
 ·rw [h1,h2]
  exact chainR_more s l 1024 0
def SimW (r : Res (Nat × Nat × Nat × Nat)) (q : WalkV × RSt) : Prop :=
 match r with
 | .val t l => q = ((t.1,t.2,0),(l,false))
 | .stop (.err c) l => q = ((0,(0,0,0),c),(l,false))
 | .stop (.need _) l => q.2 = (l,true)
theorem walkL_sim : ∀ (names : List (List UInt8)) (line : Nat) (n : Nat × Nat × Nat) (ats : List Nat),SimW (walkL fed names line n ats) (walkLR fed names line n (ats,false))
 | [],_,_,_ => rfl
 | s :: names,line,n,ats => by
  unfold walkL walkLR
  by_cases h2 : n.1 = 2
  ·rw [if_pos h2,if_neg (by omega)]
   have hF := find_sim (fed := fed) n.2.2 s ats
   unfold SimD at hF
   cases hf : findP fed n.2.2 s ats with
   | val ln l =>
    rw [hf] at hF
    simp only at hF
    rw [hF]
    show SimW ((enterP fed ln l).bind fun n ats => walkL fed names ln n ats) _
    rw [if_neg (by simp)]
    have hE := enter_sim (fed := fed) ln l
    unfold SimE at hE
    cases he : enterP fed ln l with
    | val n' l' =>
     rw [he] at hE
     simp only at hE
     show SimW (walkL fed names ln n' l') _
     rw [hE]
     exact walkL_sim names ln n' l'
    | stop o l' =>
     rw [he] at hE
     cases o with
     | err c =>
      obtain ⟨rfl,hE⟩ := hE
      show _ = _
      rw [hE]
      rfl
     | need p =>
      simp only at hE
      show (if (enterR fed ln (l,false)).1.2 = true then _ else _ : WalkV × RSt).2 = (l',true)
      rw [hE]
      split
      ·exact walkLR_more l' names _ _
      ·rfl
   | stop o l =>
    rw [hf] at hF
    cases o with
    | err c =>
     obtain ⟨hc,hF⟩ := hF
     show _ = _
     rw [hF]
     exact if_pos hc
    | need p =>
     simp only at hF
     show (if (findR fed n.2.2 s (ats,false)).1.2 ≠ 0 then _ else _ : WalkV × RSt).2 = (l,true)
     rw [hF]
     split
     ·rfl
     ·split
      ·exact walkLR_more l names _ _
      ·rfl
  ·rw [if_neg h2,if_pos h2]
   rfl
theorem rootR_eq {st : RSt} {y : Nat} {st' : RSt} (h : loadR fed 1 st = (y,st')) : rootR fed st = if y = 0 ∨ 1023 < y then ((0,(0,0,0),false),st') else ((y,(enterR fed y st').1),(enterR fed y st').2) := by
 unfold rootR
 rw [h]
theorem walk_sim (names : List (List UInt8)) : SimW (walkedP fed names) (walkR fed names ([],false)) := by
 unfold walkedP walkR
 rcases loadR_sim (fed := fed) 1 [] with ⟨y,l,h1,h2⟩ | ⟨l,h1,h2⟩
 ·rw [h1,rootR_eq h2]
  show SimW ((someP y l).bind fun line ats => (enterP fed line ats).bind fun n ats => walkL fed names line n ats) _
  unfold someP pointerP
  by_cases hy : y = 0
  ·rw [if_pos hy,if_pos (show y = 0 ∨ 1023 < y from .inl hy)]
   rfl
  ·rw [if_neg hy]
   by_cases hy2 : y < 1024
   ·rw [if_pos hy2,if_neg (show ¬ (y = 0 ∨ 1023 < y) by omega)]
    show SimW ((enterP fed y l).bind fun n ats => walkL fed names y n ats) _
    have hE := enter_sim (fed := fed) y l
    unfold SimE at hE
    cases he : enterP fed y l with
    | val n' l' =>
     rw [he] at hE
     simp only at hE
     show SimW (walkL fed names y n' l') _
     rw [hE]
     exact walkL_sim names y n' l'
    | stop o l' =>
     rw [he] at hE
     cases o with
     | err c =>
      obtain ⟨rfl,hE⟩ := hE
      show _ = _
      rw [hE]
      rfl
     | need p =>
      simp only at hE
      show (if (enterR fed y (l,false)).1.2 = true then _ else _ : WalkV × RSt).2 = (l',true)
      rw [hE]
      split
      ·exact walkLR_more l' names _ _
      ·rfl
   ·rw [if_neg hy2,if_pos (show y = 0 ∨ 1023 < y from .inr (by omega))]
    rfl
 ·rw [h1,rootR_eq h2,if_pos (show (0 : Nat) = 0 ∨ 1023 < 0 from .inl rfl)]
  rfl
end
end
end Go.Proofs.YtdpooagnbmpinaaGreatDoor
