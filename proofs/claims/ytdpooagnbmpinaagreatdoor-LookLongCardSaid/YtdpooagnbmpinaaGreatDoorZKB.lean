import Derived.Test.YtdpooagnbmpinaaGreatDoorZK7
import Derived.StillTailTactics
namespace Go.Proofs.YtdpooagnbmpinaaGreatDoor
section
open Go.RowKit
structure Box (p : Prop) : Prop where
 out : p
theorem box_step {P : Program} {ops : Array Oper} {w : World} {Q : Act -> Prop} {a : Act} {o : Oper} {rest : List Oper}
  (h : ∀ K : Act -> Prop,(∀ a,Box (wpStill P ops w Q rest a) -> K a) -> if Region.wanted o (yielded ops a.tmps) then o.still P a w K else K (a.put o.dst undef)) : Box (wpStill P ops w Q (o :: rest) a) :=
 ⟨wpStill_step fun K hK => h K fun a ha => hK a ha.out⟩
theorem box_region {P : Program} {id : Nat} {Q : Exit -> Act -> World -> Prop} {a : Act} {w : World} {l : List Oper} (hm : P.follows .mixedOrders = true) (hB : Region.lexB .any l.toArray = true)
  (h : Box (wpStill P l.toArray { w with drawn := w.drawn + 1 } (fun a' => Q .normal a' { w with drawn := w.drawn + 1 }) l a)) : (Code.region id l.toArray true).wp P Q a w := wp_region_still_lit hm hB h.out
theorem box_tail {P : Program} {id : Nat} {Q : Exit -> Act -> World -> Prop} {a : Act} {w : World} {l : List Oper} (n : Nat) (hm : P.follows .mixedOrders = true) (hB : Region.lexTailB .any l.toArray n = true)
  (h : Box (wpStill P l.toArray { w with drawn := w.drawn + 1 } (fun a' => wpList P l.toArray Q (l.drop n) a' { w with drawn := w.drawn + 1 }) (l.take n) a)) : (Code.region id l.toArray true).wp P Q a w := wp_region_still_tail n hm hB h.out
end
end Go.Proofs.YtdpooagnbmpinaaGreatDoor
