import Derived.Test.YtdpooagnbmpinaaGreatDoorZGK
import Derived.Test.YtdpooagnbmpinaaGreatDoorZG0
import Derived.Test.YtdpooagnbmpinaaGreatDoorZG4
namespace Go.Proofs.YtdpooagnbmpinaaGreatDoor
section
open Go.RowKit
section
variable {R : Nat} {FA : Option Addr} {nf cf : Nat} {fed ats : List Nat} {W : World} {b B : Nat} {o : Obj}
theorem putObj_cell (W : World) (B b i : Nat) (o : Obj) (hne : b ≠ B) : (W.putObj B o).cell? ⟨b,i,none⟩ = W.cell? ⟨b,i,none⟩ := World.cell?_of_block (w := W) (World.putObj_heap_other hne)
theorem FreeAt.putObj (h : FreeAt R W b) (hne : B ≠ R) : FreeAt R (W.putObj B o) b :=
 ⟨h.1,fun u hu => h.2 u (by rwa [putObj_cell _ _ _ _ _ (Ne.symm hne)] at hu)⟩
theorem RdAt.putObj (h : RdAt R FA nf cf fed ats W) (hf : FreeAt R W B) (hR : R <= B) : RdAt R FA nf cf fed ats (W.putObj B o) := by
 obtain ⟨u,hu,ho⟩ := h.atsv
 refine ⟨by simpa [World.putObj] using h.lt,(putObj_cell _ _ _ _ _ (Ne.symm hf.1)).trans h.fedc,h.fedl,fun hn => ?_,h.feda,⟨u,(putObj_cell _ _ _ _ _ (Ne.symm hf.1)).trans hu,ho.kept (grownBy_putObj' W B o) (.inr (hf.2 u hu))⟩,(World.frozen?_of_block (w := W) (World.putObj_heap_other (Ne.symm hf.1))).trans h.frz⟩
 obtain ⟨b,off,e,hb,hc⟩ := h.fedr hn
 have := h.feda (by rw [List.length_map] at hn;exact hn) b off e
 exact ⟨b,off,e,by simpa [World.putObj] using hb,fun k w hw => (putObj_cell _ _ _ _ _ (by omega)).trans (hc k w hw)⟩
theorem RB.putObj {W0 : World} {n : Nat} (h : RB R n W0 W) (hn : n <= B) (hne : B ≠ R) : RB R n W0 (W.putObj B o) :=
 ⟨h.os,h.tape,h.output,by simpa [World.putObj] using h.size,fun k hk hf => ⟨(World.putObj_heap_other (by omega)).trans (h.keep k hk hf).1,(h.keep k hk hf).2.putObj hne⟩⟩
theorem RB.round {W4 Wx W6 : World} {n n' l : Nat} {o1 : Obj} (h1 : RB R n W4 Wx) (hF : FreeAt R W4 l) (hl : W4.heap[l]? = some o) (hlt : l < W6.heap.size) (k : RB R n' (Wx.putObj l o1) W6) (hn : n <= n') : RB R n W4 (W6.putObj l o) := by
 refine ⟨k.os.trans h1.os,k.tape.trans h1.tape,k.output.trans h1.output,?_,fun b hb hf => ?_⟩
 ·have := k.size
  have := h1.size
  simp [World.putObj] at *
  omega
 ·obtain ⟨e1,f1⟩ := h1.keep b hb hf
  obtain ⟨e2,f2⟩ := k.keep b (by omega) (f1.putObj hF.1)
  refine ⟨?_,f2.putObj hF.1⟩
  by_cases hbl : b = l
  ·subst hbl
   rw [World.putObj_heap_same hlt,hl]
  ·rw [World.putObj_heap_other hbl,e2,World.putObj_heap_other hbl,e1]
end
theorem yields_of_at {P : Program} {l : Nat} {args : Array Value} {W : World} {R : Ending -> World -> Prop} {m : Nat} (h : YieldAt Fence.wide m P l args W R) : Yields P l args W R := by
 obtain ⟨fn,tmps,assign,body,h1,h2⟩ := h
 exact ⟨fn,tmps,assign,body,h1,fun m => ⟨h2.1,fun c cs _ => h2.2 c cs (room_wide _)⟩⟩
variable {R : Nat} {FA : Option Addr} {nf cf : Nat} {fed ats : List Nat}
def RoundEnd (R : Nat) (FA : Option Addr) (nf cf : Nat) (fed : List Nat) (B9 : Nat) (W : World) (r : Res (Option Nat)) (e : Exit) (a : Act) (W' : World) : Prop :=
 match r with
 | .val none l => e = .normal ∧ RdAt R FA nf cf fed l W' ∧ RB R W.heap.size W W'
 | .val (some v) l => e = .exit 0 ∧ ∃ W2,RdAt R FA nf cf fed l W2 ∧ RB R W.heap.size W W2 ∧ W' = W2.setCell ⟨B9,0,none⟩ (.int .i64 v)
 | .stop o l => e = .panic [outV o] ∧ a.defers = [] ∧ RdAt R FA nf cf fed l W' ∧ RB R W.heap.size W W'
set_option maxHeartbeats 1000000 in
theorem wpB_chain {f : FuncId} {fn : Func} (hf : Tryz.prog.funcs[f]? = some fn) {g : Operand} {p : Tmp} {assign body : Code} {Q : Exit -> Act -> World -> Prop} {a : Act} {W : World} {Rb Hb head B9 : Nat} {c9 : Value} (s : List UInt8)
  (hg : a.eval g = .func (.func 136) #[] #[.pointer (some ⟨Rb,0,none⟩),.pointer (some ⟨Hb,0,none⟩)])
  (hhead : head < 9223372036854775808) (hl : ats.length <= 100000) (hnf : nf <= 20000) (hx64 : ∀ x ∈ fed,x < 18446744073709551616)
  (hrd : RdAt R FA nf cf fed ats W) (hc : ChainAt R Rb Hb head W) (hF1 : FreeAt R W Rb) (hF2 : FreeAt R W Hb) (hF9 : FreeAt R W B9) (h9 : W.cell? ⟨B9,0,none⟩ = some c9) (hR9 : R <= B9)
  (A : Nat -> Act) (hassign : ∀ (l line : Nat) (W : World) (K : Act -> World -> Prop),K (A line) W -> assign.wpIn (Fence.wide.inRound l) 7 Tryz.prog (Exit.then K (fun _ _ _ => False)) { tmps := a.tmps.setIfInBounds p (.int .i64 line),defers := [] } W)
  (hbody : ∀ (l line : Nat) (l1 : List Nat) (Wx : World),1 <= line -> line < 1024 -> l1.length <= nf -> RdAt R FA nf cf fed l1 Wx -> RB R W.heap.size W Wx -> body.wpIn (Fence.wide.inRound l) 7 Tryz.prog (RoundEnd R FA nf cf fed B9 Wx (roundQ fed s line l1)) (A line) Wx)
  (hnone : ∀ l' W',Hid (headQ fed s head ats = .val none l') -> RdAt R FA nf cf fed l' W' -> RB R W.heap.size W W' -> W'.heap[W.heap.size]? = some (.deferred (some [])) -> FreeAt R W' W.heap.size -> Q .normal { a with defers := { target := .collected W.heap.size,args := #[] } :: a.defers } W')
  (hsome : ∀ v l' W',Hid (headQ fed s head ats = .val (some v) l') -> RdAt R FA nf cf fed l' W' -> RB R B9 W W' -> W'.cell? ⟨B9,0,none⟩ = some (.int .i64 (v : Nat)) -> W'.heap[W.heap.size]? = some (.deferred (some [])) -> FreeAt R W' W.heap.size -> Q (.exit 0) { a with defers := { target := .collected W.heap.size,args := #[] } :: a.defers } W')
  (hstop : ∀ o l' W',Hid (headQ fed s head ats = .stop o l') -> RdAt R FA nf cf fed l' W' -> RB R W.heap.size W W' -> W'.heap[W.heap.size]? = some (.deferred (some [])) -> FreeAt R W' W.heap.size -> Q (.panic [outV o]) { a with defers := { target := .collected W.heap.size,args := #[] } :: a.defers } W') :
  WpB f Tryz.prog (Code.rangeFunc g #[p] assign body) Q a W := by
 refine wpB_rangeFunc hg (enters_of Tryz.func136 (by kernel_rfl) rfl) ?_
 obtain ⟨rec,hrec⟩ : ∃ rec : LoopState -> Option Code -> Loop,(fun st pe => recOf f a.tmps #[p] assign body W.heap.size st pe) = rec := ⟨_,rfl⟩
 have hr0 : recOf f a.tmps #[p] assign body W.heap.size .ready none = rec .ready none := by rw [<- hrec]
 obtain ⟨W4,hW4⟩ : ∃ W4,(W.alloc (.deferred (some []))).alloc (.loop (rec .ready none)) = W4 := ⟨_,rfl⟩
 rw [hr0,hW4]
 have hs4 : W4.heap.size = W.heap.size + 1 + 1 := by rw [<- hW4];simp
 have hb4 : Below W.heap.size W W4 := by rw [<- hW4];exact ((Below.refl _ W).alloc (Nat.le_refl _) _).alloc (by simp) _
 have hL4 : W4.heap[W.heap.size + 1]? = some (.loop (rec .ready none)) := by
  rw [<- hW4];have := World.alloc_heap_new (w := W.alloc (.deferred (some []))) (.loop (rec .ready none));rwa [World.size_alloc] at this
 have hD4 : W4.heap[W.heap.size]? = some (.deferred (some [])) := by
  rw [<- hW4];exact (Below.heap_alloc _ _ _ (by simp)).trans (World.alloc_heap_new (w := W) _)
 have hrd4 := hrd.below hb4
 have hFl : FreeAt R W4 (W.heap.size + 1) := hrd.free_new hb4 (by omega)
 have hFd : FreeAt R W4 W.heap.size := hrd.free_new hb4 (Nat.le_refl _)
 have hbr : Rb < W.heap.size := World.block_lt_of_cell? W ⟨Rb,0,none⟩ hc.1
 have hbh : Hb < W.heap.size := World.block_lt_of_cell? W ⟨Hb,0,none⟩ hc.2
 have hb9 : B9 < W.heap.size := World.block_lt_of_cell? W ⟨B9,0,none⟩ h9
 have hF14 := freeAt_below hb4 hrd.lt hF1
 have hF24 := freeAt_below hb4 hrd.lt hF2
 have hF94 := freeAt_below hb4 hrd.lt hF9
 have hRB4 : RB R W.heap.size W W4 := RB.of_below hb4 hrd.lt
 have hRl := hrd.lt
 have hpe : ∀ st pe,(rec st pe).pending = pe := fun st pe => by rw [<- hrec];rfl
 have hgl : ∀ W1,RB R (W.heap.size + 1 + 1) W4 W1 -> W1.heap[W.heap.size + 1]? = some (.loop (rec .ready none)) := fun W1 h => ((h.keep _ (by omega) hFl).1).trans hL4
 refine callsIn_wide.2 ((chain1_in (R := R) (FA := FA) (nf := nf) (cf := cf) (fed := fed) (ats := ats) (W.heap.size + 1) Rb Hb head s (fun l Wx => RdAt R FA nf cf fed l Wx ∧ RB R (W.heap.size + 1 + 1) W4 Wx)
  (fun v l Wx => RdAt R FA nf cf fed l Wx ∧ RB R B9 W Wx ∧ Wx.cell? ⟨B9,0,none⟩ = some (.int .i64 (v : Nat)) ∧ Wx.heap[W.heap.size]? = some (.deferred (some [])) ∧ Wx.heap[W.heap.size + 1]? = some (.loop (rec .done (some (.exit 0)))) ∧ FreeAt R Wx (W.heap.size + 1) ∧ FreeAt R Wx W.heap.size)
  (fun l Wx => RdAt R FA nf cf fed l Wx ∧ RB R (W.heap.size + 1) W4 Wx) W4 hhead hl hnf hx64 ?_ ?_ ?_ ?_ ⟨hrd4,RB.refl _ _ _⟩).mono ?_)
 ·rintro l Wx ⟨h1,h2⟩
  exact ⟨h1,(h2.cell (by omega) hF14).trans ((hb4.cell (p := ⟨Rb,0,none⟩) hbr).trans hc.1),(h2.cell (by omega) hF24).trans ((hb4.cell (p := ⟨Hb,0,none⟩) hbh).trans hc.2)⟩
 ·rintro l l' W1 W2 ⟨h1,h2⟩ h3 h4
  exact ⟨h3,h2.trans (h4.mono (by have := h2.size;omega))⟩
 ·rintro l W1 ⟨h1,h2⟩
  exact ⟨h1,h2.mono (by omega)⟩
 ·rintro line l1 W1 hl1 hl2 hl3 ⟨h1,h2⟩
  have hlp := hgl W1 h2
  have hF1' := (h2.keep _ (by omega) hFl).2
  have hs1 : W.heap.size + 1 + 1 <= W1.heap.size := by have := h2.size;omega
  obtain ⟨W5,hW5⟩ : ∃ W5,W1.putObj (W.heap.size + 1) (.loop (rec .busy none)) = W5 := ⟨_,rfl⟩
  have hrd5 : RdAt R FA nf cf fed l1 W5 := by rw [<- hW5];exact h1.putObj hF1' (by omega)
  have hs5 : W5.heap.size = W1.heap.size := by rw [<- hW5];simp [World.putObj]
  have hL5 : W5.heap[W.heap.size + 1]? = some (.loop (rec .busy none)) := by rw [<- hW5];exact World.putObj_heap_same (by omega)
  have hF5 : FreeAt R W5 (W.heap.size + 1) := by rw [<- hW5];exact hF1'.putObj hF1'.1
  have h25 : RB R (W.heap.size + 1) W4 W5 := by rw [<- hW5];exact (h2.mono (by omega)).putObj (Nat.le_refl _) hF1'.1
  have hb := hbody (W.heap.size + 1) line l1 W5 hl1 hl2 hl3 hrd5 (hRB4.trans (h25.mono (by omega)))
  have hkl : ∀ W6,RB R W5.heap.size W5 W6 -> W6.heap[W.heap.size + 1]? = some (.loop (rec .busy none)) ∧ FreeAt R W6 (W.heap.size + 1) := fun W6 h6 => by
   have := h6.keep (W.heap.size + 1) (by omega) hF5
   exact ⟨this.1.trans hL5,this.2⟩
  refine yields_of_at ((yieldP (P := Tryz.prog) (f := f) (l := W.heap.size + 1) (D := W.heap.size) (args := #[.int .i64 (line : Nat)]) (ps := #[p]) (assign := assign) (body := body) (tmps := a.tmps) (W := W1) hf rfl (by rw [hr0];exact hlp)
   (fun W3 => ∃ l',roundQ fed s line l1 = .val none l' ∧ RdAt R FA nf cf fed l' W3 ∧ RB R W5.heap.size W5 W3)
   (fun c W3 => c = .exit 0 ∧ ∃ v l' W2,roundQ fed s line l1 = .val (some v) l' ∧ RdAt R FA nf cf fed l' W2 ∧ RB R W5.heap.size W5 W2 ∧ W3 = W2.setCell ⟨B9,0,none⟩ (.int .i64 (v : Nat)))
   (fun ch W3 => ∃ o l',roundQ fed s line l1 = .stop o l' ∧ ch = [outV o] ∧ RdAt R FA nf cf fed l' W3 ∧ RB R W5.heap.size W5 W3)
   (A line) (fun K hK => by rw [show (#[p].zip #[Value.int .i64 (line : Nat)]).foldl (fun t (p,v) => t.setIfInBounds p v) a.tmps = a.tmps.setIfInBounds p (.int .i64 line) from by simp];exact hassign (W.heap.size + 1) line W1 K hK) ?_).mono ?_)
  ·rw [show recOf f a.tmps #[p] assign body W.heap.size .busy none = rec .busy none from by rw [<- hrec],hW5]
   refine wpIn_mono hb ?_
   intro e a3 W3 hp
   unfold RoundEnd at hp
   cases hr : roundQ fed s line l1 with
   | stop o l' =>
    rw [hr] at hp
    obtain ⟨rfl,hd,h5,h6⟩ := hp
    exact ⟨hd,o,l',rfl,rfl,h5,h6⟩
   | val ov l' =>
    rw [hr] at hp
    cases ov with
    | none =>
     obtain ⟨rfl,h5,h6⟩ := hp
     exact ⟨(hkl W3 h6).1,l',rfl,h5,h6⟩
    | some v =>
     obtain ⟨rfl,W2,h5,h6,rfl⟩ := hp
     exact ⟨(Below.heap_setCell W2 ⟨B9,0,none⟩ _ _ (by show W.heap.size + 1 ≠ B9;omega)).trans (hkl W2 h6).1,rfl,v,l',W2,rfl,h5,h6,rfl⟩
  ·have hrd' : ∀ st pe,recOf f a.tmps #[p] assign body W.heap.size st pe = rec st pe := fun st pe => by rw [<- hrec]
   rintro e W' (⟨rfl,W3,⟨l',hr,h5,h6⟩,h7,rfl⟩ | ⟨rfl,c,W3,⟨rfl,v,l',W2,hr,h5,h6,rfl⟩,h7,rfl⟩ | ⟨ch,rfl,o,l',hr,rfl,h5,h6⟩)
   ·rw [hr,hrd']
    obtain ⟨_,hf6⟩ := hkl W3 h6
    have hs6 := h6.size
    rw [<- hW5] at h6
    exact ⟨rfl,h5.putObj hf6 (by omega),h2.round hFl hL4 (by omega) h6 (by simp [World.putObj];omega)⟩
   ·rw [hr,hrd']
    obtain ⟨hl6,hf6⟩ := hkl W2 h6
    have hs6 := h6.size
    obtain ⟨e9,f9⟩ := (hRB4.trans ((h25.mono (by omega)).trans (h6.mono (by omega)))).keep B9 hb9 hF9
    have hd9 : W2.heap[W.heap.size]? = some (.deferred (some [])) := ((h6.keep W.heap.size (by omega) ((h25.keep _ (by omega) hFd).2)).1.trans (h25.keep _ (by omega) hFd).1).trans hD4
    have hfd6 := (h6.keep W.heap.size (by omega) ((h25.keep _ (by omega) hFd).2)).2
    refine ⟨rfl,(h5.set f9).putObj (hf6.set f9.1) (by omega),?_,?_,?_,World.putObj_heap_same (by simp [World.setCell];omega),(hf6.set f9.1).putObj hf6.1,(hfd6.set f9.1).putObj hf6.1⟩
    ·exact (((hRB4.mono (by omega)).trans ((h25.mono (by omega)).trans (h6.mono (by omega)))).set (Nat.le_refl _) f9.1).putObj (by omega) hf6.1
    ·rw [putObj_cell _ _ _ _ _ (by omega)]
     exact World.cell?_setCell_same' _ _ _ (by rw [World.cell?_of_block (w := W) e9,h9];rfl)
    ·rw [World.putObj_heap_other (by omega)]
     exact (Below.heap_setCell W2 ⟨B9,0,none⟩ _ _ (by show W.heap.size ≠ B9;omega)).trans hd9
   ·rw [hr]
    exact ⟨rfl,h5,h25.trans (h6.mono (by omega))⟩
 ·rintro e W' hp
  unfold CPost at hp
  cases hr : headQ fed s head ats with
  | stop o l' =>
   rw [hr] at hp
   obtain ⟨rfl,h1,h2⟩ := hp
   exact hstop o l' W' hr h1 (hRB4.trans (h2.mono (by omega))) ((h2.keep _ (by omega) hFd).1.trans hD4) (h2.keep _ (by omega) hFd).2
  | val ov l' =>
   rw [hr] at hp
   cases ov with
   | none =>
    obtain ⟨rfl,h1,h2⟩ := hp
    have hlp := hgl W' h2
    have hfp := (h2.keep _ (by omega) hFl).2
    refine ⟨none,_,(run_endLoop hlp (by rw [<- hrec];simp [recOf])).trans (by rw [hpe]),hnone l' _ hr (h1.putObj hfp (by omega)) ((hRB4.trans (h2.mono (by omega))).putObj (by omega) hfp.1) ?_ ((h2.keep _ (by omega) hFd).2.putObj hfp.1)⟩
    exact (World.putObj_heap_other (by omega)).trans ((h2.keep _ (by omega) hFd).1.trans hD4)
   | some v =>
    obtain ⟨rfl,h1,h2,h3,h4,h5,h6,h7⟩ := hp
    refine ⟨some (.exit 0),_,(run_endLoop h5 (by rw [<- hrec];simp [recOf])).trans (by rw [hpe]),?_⟩
    exact wpB_of_wp (wp_exit (hsome v l' _ hr (h1.putObj h6 (by omega)) (h2.putObj (by omega) h6.1) ((putObj_cell _ _ _ _ _ (by omega)).trans h3) ((World.putObj_heap_other (by omega)).trans h4) (h7.putObj h6.1)))
end
section
open Go.RowKit
attribute [local go_sem] Oper.semAt_some
theorem panic_mark {P : Program} {fn : Func} {R : Ending -> World -> Prop} {tmps : Array Value} {W : World} {D : Nat} {ch : List PanicEntry}
  (hK : W.heap[D]? = some (.deferred (some []))) (h : R (.panicked ch) (W.putObj D (.deferred none))) : bodyPostM Fence.wide 9 P fn R (.panic ch) { tmps := tmps,defers := [{ target := .collected D,args := #[] }] } W :=
 ⟨by simp,.inl ⟨_,_,rfl,run_takeDeferred hK,h⟩⟩
theorem chainQ_ne {fed : List Nat} {s : List UInt8} : ∀ {fuel line v : Nat} {l l' : List Nat},chainQ fed s fuel line l = .val (some v) l' -> v ≠ 0
 | 0,line,v,l,l',h => by
  rw [chainQ] at h
  split at h <;> cases h
 | fuel + 1,line,v,l,l',h => by
  rw [chainQ] at h
  split at h
  ·cases h
  ·obtain ⟨o,l1,h1,h2⟩ := bind_val h
   cases o with
   | some v' =>
    cases h2
    obtain ⟨b,l2,h3,h4⟩ := bind_val h1
    split at h4
    ·obtain ⟨v'',l3,h5,h6⟩ := bind_val h4
     cases h6
     obtain ⟨x,l5,h7,h8⟩ := bind_val h5
     exact (someP_ne h8).1
    ·cases h4
   | none =>
    obtain ⟨next,l2,h3,h4⟩ := bind_val h2
    exact chainQ_ne h4
theorem headQ_ne {fed : List Nat} {s : List UInt8} {head v : Nat} {l l' : List Nat} (h : headQ fed s head l = .val (some v) l') : v ≠ 0 := by
 obtain ⟨line,l1,h1,h2⟩ := bind_val h
 exact chainQ_ne h2
variable {R : Nat} {FA : Option Addr} {nf cf : Nat} {fed ats : List Nat}
set_option maxRecDepth 100000 in
set_option maxHeartbeats 8000000 in
theorem find_any (top : Nat) (s : ByteArray) (W : World) (htop : top < 1024) (hr : rightB (bytesOf s) = true) (hl : ats.length <= 50000) (hnf : nf <= 20000) (hx64 : ∀ x ∈ fed,x < 18446744073709551616) (h : RdAt R FA nf cf fed ats W) :
  Calls Tryz.prog 52 #[.pointer (some ⟨R,0,none⟩),.int .i64 top,.string s] W (ReadsTo R FA nf cf fed W (fun a : Nat => .int .i64 a) (findP fed top (bytesOf s) ats)) := by
 obtain ⟨hs1,hs40⟩ := rightB_size hr
 rw [size_bytesOf] at hs1 hs40
 have hbk := fun W => bucket_any s W (by unfold maxLen;omega)
 rw [hr,if_pos rfl] at hbk
 have HFE := Lib.hid (findP_eq fed top (bytesOf s) ats)
 have HR := Lib.hid h
 have HX := Lib.hid hx64
 have hbb : bucketN (bytesOf s) < 100000 := by unfold bucketN;omega
 have HRT := Lib.hid hr
 generalize hbkn : bucketN (bytesOf s) = bk at *
 have hat := fun W => at_any top bk W (by omega)
 have hhd : top * 8 + bk < 9223372036854775808 := by omega
 generalize top * 8 + bk = head at *
 have HBK := Lib.hid hbk
 have HAT := Lib.hid hat
 clear hbk hat h hx64 hr
 refine calls_of_wpB (f := 52) Tryz.func52 rfl ?_
 simp only [Tryz.ntmps52,List.size_toArray,List.length_cons,List.length_nil,Nat.reduceAdd,Nat.reduceSub,Array.replicate_succ,Array.replicate_zero,List.push_toArray,List.append_toArray,List.nil_append,List.cons_append]
 refine wpB_seq_k fun K hK => ?_
 go_wp2_with fail
 refine wpB_scope ?_
 refine wpB_seq_k fun K hK => ?_
 go_wp2_with (go_at_call 81;refine (HBK.out _).mono ?_;rintro e w1 ⟨rfl,hb1⟩)
 refine wpB_seq_k fun K hK => ?_
 go_wp2_with fail
 refine wpB_seq_k fun K hK => ?_
 go_wp2_with go_step3
 have hb0 : Below W.heap.size W ((W.alloc (.cells #[.pointer (some ⟨R,0,none⟩)] 77)).alloc (.cells #[.string s] 9)) := ((Below.refl _ W).alloc (Nat.le_refl _) _).alloc (by simp) _
 obtain ⟨W0,hW0⟩ : ∃ W0,(W.alloc (.cells #[.pointer (some ⟨R,0,none⟩)] 77)).alloc (.cells #[.string s] 9) = W0 := ⟨_,rfl⟩
 have hs0 : W0.heap.size = W.heap.size + 2 := by rw [<- hW0];simp
 have d3 : W0.cell? ⟨W.heap.size,0,none⟩ = some (.pointer (some ⟨R,0,none⟩)) := by
  rw [<- hW0]
  exact (((Below.refl _ (W.alloc (.cells #[.pointer (some ⟨R,0,none⟩)] 77))).alloc (Nat.le_refl _) _).cell (p := ⟨W.heap.size,0,none⟩) (by simp)).trans (cell_new W _ _ 0 _ rfl)
 have d5 : W0.cell? ⟨W.heap.size + 1,0,none⟩ = some (.string s) := by
  rw [<- hW0]
  have := cell_new (W.alloc (.cells #[.pointer (some ⟨R,0,none⟩)] 77)) #[.string s] 9 0 _ rfl
  rwa [World.size_alloc] at this
 have hb1 : Below W0.heap.size W0 w1 := hW0 ▸ hb1
 rw [hW0] at hb0
 obtain ⟨V,hV⟩ : ∃ V,w1.alloc (.cells #[.int .i64 0] 3) = V := ⟨_,rfl⟩
 have hbV : Below W0.heap.size W0 V := by rw [<- hV];exact hb1.alloc hb1.size _
 have hbWV : Below W.heap.size W V := hb0.trans (hbV.mono (by omega))
 obtain ⟨B9,hB9⟩ : ∃ B9,w1.heap.size = B9 := ⟨_,rfl⟩
 have hs1 : W.heap.size + 2 <= B9 := by have := hb1.size;omega
 have c3 : V.cell? ⟨W.heap.size,0,none⟩ = some (.pointer (some ⟨R,0,none⟩)) := (hbV.cell (p := ⟨W.heap.size,0,none⟩) (by show W.heap.size < _;omega)).trans d3
 have c5 : V.cell? ⟨W.heap.size + 1,0,none⟩ = some (.string s) := (hbV.cell (p := ⟨W.heap.size + 1,0,none⟩) (by show W.heap.size + 1 < _;omega)).trans d5
 have c9 : V.cell? ⟨B9,0,none⟩ = some (.int .i64 0) := by rw [<- hV,<- hB9];exact cell_new w1 _ _ 0 _ rfl
 have f9 : V.frozen? ⟨B9,0,none⟩ = false := by rw [<- hV,<- hB9];exact (World.frozen?_of_block (w := w1.alloc (.cells #[.int .i64 0] 3)) rfl).trans (by simp)
 have hF3 := HR.out.free_new hbWV (Nat.le_refl _)
 have hF5 := HR.out.free_new hbWV (b := W.heap.size + 1) (by omega)
 have hF9 := HR.out.free_new hbWV (b := B9) (by omega)
 have hRV := HR.out.below hbWV
 have hV9 : B9 < V.heap.size := by rw [<- hV,<- hB9];simp
 have hRlt := HR.out.lt
 rw [hV,hB9]
 have HBW := Lib.hid hbWV
 clear hW0 hV d3 d5 hb0 hb1 hbV hB9 hbWV
 refine wpB_seq ?_
 refine wpB_seq_k fun K hK => ?_
 refine box_tail 4 (by kernel_rfl) (by kernel_rfl) ?_
 simp only [List.take_succ_cons,List.take_zero,List.drop_succ_cons,List.drop_zero]
 iterate 3
  refine box_step (fun K hK => ?_)
  go_simp
  refine hK _ ?_
  clear hK K
 refine box_step (fun K hK => ?_)
 go_simp
 refine ⟨_,HAT.out _,hK _ ?_⟩
 clear hK K
 refine ⟨wpStill_nil ?_⟩
 have HCH := Lib.hid (fun W => chain_any R head W)
 go_wp2_with (go_at_call 82;refine (HCH.out _).mono ?_;rintro e w2 ⟨rfl,rfl⟩)
 have hb2 : Below V.heap.size V ((V.alloc (.cells #[.pointer (some ⟨R,0,none⟩)] 77)).alloc (.cells #[.int .i64 (head : Nat)] 3)).drew := (((Below.refl _ V).alloc (Nat.le_refl _) _).alloc (by simp) _).drew
 obtain ⟨V2,hV2⟩ : ∃ V2,((V.alloc (.cells #[.pointer (some ⟨R,0,none⟩)] 77)).alloc (.cells #[.int .i64 (head : Nat)] 3)).drew = V2 := ⟨_,rfl⟩
 have e1 : V2.cell? ⟨V.heap.size,0,none⟩ = some (.pointer (some ⟨R,0,none⟩)) := by
  rw [<- hV2]
  exact (((Below.refl _ (V.alloc (.cells #[.pointer (some ⟨R,0,none⟩)] 77))).alloc (Nat.le_refl _) _).cell (p := ⟨V.heap.size,0,none⟩) (by simp)).trans (cell_new V _ _ 0 _ rfl)
 have e2 : V2.cell? ⟨V.heap.size + 1,0,none⟩ = some (.int .i64 (head : Nat)) := by
  rw [<- hV2]
  have := cell_new (V.alloc (.cells #[.pointer (some ⟨R,0,none⟩)] 77)) #[.int .i64 (head : Nat)] 3 0 _ rfl
  rwa [World.size_alloc] at this
 have hs2 : V2.heap.size = V.heap.size + 2 := by rw [<- hV2];simp [World.drew]
 rw [hV2] at hb2
 rw [hV2]
 have hRV2 := hRV.below hb2
 have hE1 := hRV.free_new hb2 (Nat.le_refl _)
 have hE2 := hRV.free_new hb2 (b := V.heap.size + 1) (by omega)
 have k3 := freeAt_below hb2 hRV.lt hF3
 have k5 := freeAt_below hb2 hRV.lt hF5
 have k9 := freeAt_below hb2 hRV.lt hF9
 have c3 : V2.cell? ⟨W.heap.size,0,none⟩ = some (.pointer (some ⟨R,0,none⟩)) := (hb2.cell (p := ⟨W.heap.size,0,none⟩) (by show W.heap.size < _;omega)).trans c3
 have c5 : V2.cell? ⟨W.heap.size + 1,0,none⟩ = some (.string s) := (hb2.cell (p := ⟨W.heap.size + 1,0,none⟩) (by show W.heap.size + 1 < _;omega)).trans c5
 have c9 : V2.cell? ⟨B9,0,none⟩ = some (.int .i64 0) := (hb2.cell (p := ⟨B9,0,none⟩) hV9).trans c9
 have f9 : V2.frozen? ⟨B9,0,none⟩ = false := (hb2.frozen (p := ⟨B9,0,none⟩) hV9).trans f9
 have hV29 : B9 < V2.heap.size := by omega
 have HBV : Hid (RB R W.heap.size W V2) := ((RB.of_below HBW.out hRlt)).trans (RB.of_below (hb2.mono (by omega)) (by omega))
 clear hV2 hF3 hF5 hF9 hRV hb2 HBW HCH HBK HAT
 refine wpB_block ?_
 refine wpB_chain (R := R) (FA := FA) (nf := nf) (cf := cf) (fed := fed) (ats := ats) (Rb := V.heap.size) (Hb := V.heap.size + 1) (head := head) (B9 := B9) (c9 := .int .i64 0) Tryz.func52 (bytesOf s) rfl hhd (by omega) hnf HX.out hRV2 ⟨e1,e2⟩ hE1 hE2 k9 c9 (by omega) ?_ ?_ ?_ ?_ ?_ ?_
 rotate_left
 ·intro l line W K hK
  gi_wp2
  exact hK
 ·intro lp line l1 Wx hl1 hl2 hl3 hrd hrb
  have x3 := (hrb.cell (b := W.heap.size) (by omega) k3).trans c3
  have x5 := (hrb.cell (b := W.heap.size + 1) (by omega) k5).trans c5
  have x9 := (hrb.cell hV29 k9).trans c9
  have y9 := (hrb.frozen hV29 k9).trans f9
  have q3 := (hrb.keep W.heap.size (by omega) k3).2
  have q9 := (hrb.keep B9 hV29 k9).2
  have hsx : V2.heap.size <= Wx.heap.size := hrb.size
  have hft := fits_any line s Wx (by omega) HRT.out (by omega) (by omega) HX.out hrd
  have HRX := Lib.hid hrd
  have HRQ : Hid (roundQ fed (bytesOf s) line l1 = (fitsP fed line (bytesOf s) l1).bind fun is ats => if is then ((loadP fed (line * 8 + 1) ats).bind someP).bind fun v ats => .val (some v) ats else .val none ats) := rfl
  clear hrb hrd
  generalize hr1 : fitsP fed line (bytesOf s) l1 = r1 at HRQ hft
  cases r1 with
  | stop o l2 =>
   have HRE : Hid (roundQ fed (bytesOf s) line l1 = .stop o l2) := HRQ.out
   have HFT := Lib.hid (reads_stop hft rfl)
   clear hft HRQ hr1
   gi_wp2_with (refine And.intro trivial ?_;gi_at_call 83;refine (CallsIn.inRound lp (callsIn_wide.2 HFT.out)).mono ?_;rintro e w5 ⟨rfl,h5,hb5⟩)
   rw [HRE.out]
   exact ⟨rfl,rfl,h5,hb5⟩
  | val bb l2 =>
   have hlen2 := fitsP_len hr1
   rw [HR.out.fedl] at hlen2
   have HFT := Lib.hid (reads_val hft rfl)
   clear hft hr1
   cases bb with
   | false =>
    have HRE : Hid (roundQ fed (bytesOf s) line l1 = .val none l2) := HRQ.out
    clear HRQ
    gi_wp2_with (refine And.intro trivial ?_;gi_at_call 83;refine (CallsIn.inRound lp (callsIn_wide.2 HFT.out)).mono ?_;rintro e w5 ⟨rfl,h5,hb5⟩)
    rw [HRE.out]
    exact ⟨rfl,h5,hb5⟩
   | true =>
    have HR1 : Hid (roundQ fed (bytesOf s) line l1 = ((loadP fed (line * 8 + 1) l2).bind someP).bind fun v ats => .val (some v) ats) := HRQ.out
    have hat1 := fun W => at_any line 1 W (by omega)
    have hpb : line * 8 + 1 < 9223372036854775808 := by omega
    generalize line * 8 + 1 = pp at *
    have HAT1 := Lib.hid hat1
    clear HRQ hat1
    generalize hr2 : loadP fed pp l2 = r2 at HR1
    cases r2 with
    | stop o l3 =>
     have HRE : Hid (roundQ fed (bytesOf s) line l1 = .stop o l3) := HR1.out
     clear HR1
     gi_wp2_with (refine And.intro trivial ?_;gi_at_call 83;refine (CallsIn.inRound lp (callsIn_wide.2 HFT.out)).mono ?_;rintro e w5 ⟨rfl,h5,hb5⟩)
     have z3 := (hb5.cell (b := W.heap.size) (by omega) q3).trans x3
     have z9 := (hb5.cell (b := B9) (by omega) q9).trans x9
     have zf := (hb5.frozen (b := B9) (by omega) q9).trans y9
     have zq := (hb5.keep B9 (by omega) q9).2
     have HC := Lib.hid (reads_stop (loadTo pp w5.drew hpb (by omega) (by omega) HX.out h5.drew') hr2)
     have HB5 : Hid (RB R Wx.heap.size Wx w5.drew) := hb5.trans (RB.drew' R _ w5)
     have hs5 := hb5.size
     clear h5 hb5 hr2
     rename_i KK hKK
     have HKK := Lib.hid hKK
     clear hKK
     have hmx : Tryz.prog.follows .mixedOrders = true := by kernel_rfl
     refine whichever_region (fun w2 => w2.cell? ⟨W.heap.size,0,none⟩ = some (.pointer (some ⟨R,0,none⟩))) [5,6,7] hmx ?_
     have hS0 : w5.drew.cell? ⟨W.heap.size,0,none⟩ = some (.pointer (some ⟨R,0,none⟩)) := z3
     refine whichever_take 0 (.pointer (some ⟨R,0,none⟩)) [1,2,5,6,7] rfl (by kernel_rfl) (fun _ _ _ h => h) hS0 (by rfl) (fun w hw => ?_) ?_
     ·constructor <;> go_simp
     refine whichever_take 1 (.pointer (some ⟨R,0,none⟩)) [2,5,6,7] rfl (by kernel_rfl) (fun _ _ _ h => h) hS0 (by rfl) (fun w hw => ?_) ?_
     ·constructor <;> go_simp
     refine whichever_take 2 (.pointer (some ⟨R,0,none⟩)) [5,6,7] rfl (by kernel_rfl) (fun _ _ _ h => h) hS0 (by rfl) (fun w hw => ?_) ?_
     ·constructor <;> go_simp
     refine whichever_take 3 (.int .i64 line) [4,5,6,7] rfl (by kernel_rfl) (fun _ _ _ h => h) hS0 (by rfl) (fun w hw => ?_) ?_
     ·constructor <;> go_simp
     refine whichever_next 4 rfl (by kernel_rfl) (by rfl) ?_
     go_simp
     refine ⟨trivial,?_⟩
     gi_at_call 79
     refine (CallsIn.inRound lp (callsIn_wide.2 (HAT1.out _))).mono ?_
     rintro e w6 ⟨rfl,rfl⟩
     simp only
     refine ⟨hS0,?_⟩
     refine whichever_next 5 rfl (by kernel_rfl) (by rfl) ?_
     go_simp
     refine ⟨trivial,?_⟩
     gi_at_call 49
     refine (CallsIn.inRound lp (callsIn_wide.2 HC.out)).mono ?_
     rintro e w6 ⟨rfl,h6,hb6⟩
     simp only
     rw [HRE.out]
     exact ⟨rfl,rfl,h6,HB5.out.trans (hb6.mono hs5)⟩
    | val x l3 =>
     obtain ⟨_,hxf⟩ := loadP_val hr2
     have hx := HX.out x hxf
     have HR2 : Hid (roundQ fed (bytesOf s) line l1 = (someP x l3).bind fun v ats => .val (some v) ats) := HR1.out
     have hsm := fun W => some_any x W hx l3
     clear HR1 hxf
     generalize hr3 : someP x l3 = r3 at HR2 hsm
     cases r3 with
     | stop o l4 =>
      have hl4 : l4 = l3 := by
       unfold someP pointerP at hr3
       split at hr3
       ·cases hr3;rfl
       ·split at hr3
        ·cases hr3
        ·cases hr3;rfl
      subst hl4
      have HRE : Hid (roundQ fed (bytesOf s) line l1 = .stop o l4) := HR2.out
      have HSM : Hid (∀ W,Calls Tryz.prog 48 #[.int .u64 (x : Nat)] W fun e W' => e = .panicked [outV o] ∧ W' = W) := fun W => (hsm W).mono fun e w h => ⟨h.1.trans (endOf_stop _ _ _),h.2⟩
      clear HR2 hsm hr3
      gi_wp2_with (refine And.intro trivial ?_;gi_at_call 83;refine (CallsIn.inRound lp (callsIn_wide.2 HFT.out)).mono ?_;rintro e w5 ⟨rfl,h5,hb5⟩)
      have z3 := (hb5.cell (b := W.heap.size) (by omega) q3).trans x3
      have z9 := (hb5.cell (b := B9) (by omega) q9).trans x9
      have zf := (hb5.frozen (b := B9) (by omega) q9).trans y9
      have zq := (hb5.keep B9 (by omega) q9).2
      have HC := Lib.hid (reads_val (loadTo pp w5.drew hpb (by omega) (by omega) HX.out h5.drew') hr2)
      have HB5 : Hid (RB R Wx.heap.size Wx w5.drew) := hb5.trans (RB.drew' R _ w5)
      have hs5 := hb5.size
      clear h5 hb5 hr2
      rename_i KK hKK
      have HKK := Lib.hid hKK
      clear hKK
      have hmx : Tryz.prog.follows .mixedOrders = true := by kernel_rfl
      refine whichever_region (fun w2 => w2.cell? ⟨W.heap.size,0,none⟩ = some (.pointer (some ⟨R,0,none⟩))) [5,6,7] hmx ?_
      have hS0 : w5.drew.cell? ⟨W.heap.size,0,none⟩ = some (.pointer (some ⟨R,0,none⟩)) := z3
      refine whichever_take 0 (.pointer (some ⟨R,0,none⟩)) [1,2,5,6,7] rfl (by kernel_rfl) (fun _ _ _ h => h) hS0 (by rfl) (fun w hw => ?_) ?_
      ·constructor <;> go_simp
      refine whichever_take 1 (.pointer (some ⟨R,0,none⟩)) [2,5,6,7] rfl (by kernel_rfl) (fun _ _ _ h => h) hS0 (by rfl) (fun w hw => ?_) ?_
      ·constructor <;> go_simp
      refine whichever_take 2 (.pointer (some ⟨R,0,none⟩)) [5,6,7] rfl (by kernel_rfl) (fun _ _ _ h => h) hS0 (by rfl) (fun w hw => ?_) ?_
      ·constructor <;> go_simp
      refine whichever_take 3 (.int .i64 line) [4,5,6,7] rfl (by kernel_rfl) (fun _ _ _ h => h) hS0 (by rfl) (fun w hw => ?_) ?_
      ·constructor <;> go_simp
      refine whichever_next 4 rfl (by kernel_rfl) (by rfl) ?_
      go_simp
      refine ⟨trivial,?_⟩
      gi_at_call 79
      refine (CallsIn.inRound lp (callsIn_wide.2 (HAT1.out _))).mono ?_
      rintro e w6 ⟨rfl,rfl⟩
      simp only
      refine ⟨hS0,?_⟩
      refine whichever_next 5 rfl (by kernel_rfl) (by rfl) ?_
      go_simp
      refine ⟨trivial,?_⟩
      gi_at_call 49
      refine (CallsIn.inRound lp (callsIn_wide.2 HC.out)).mono ?_
      rintro e w6 ⟨rfl,h6,hb6⟩
      simp only
      refine whichever_next 6 rfl (by kernel_rfl) (by rfl) ?_
      go_simp
      refine ⟨trivial,?_⟩
      gi_at_call 48
      refine (CallsIn.inRound lp (callsIn_wide.2 (HSM.out _))).mono ?_
      rintro e w7 ⟨rfl,rfl⟩
      simp only
      rw [HRE.out]
      exact ⟨rfl,rfl,h6,HB5.out.trans (hb6.mono hs5)⟩
     | val v l4 =>
      obtain ⟨hv0,hv1,rfl⟩ := someP_ne hr3
      have HRE : Hid (roundQ fed (bytesOf s) line l1 = .val (some v) l4) := HR2.out
      have HSM : Hid (∀ W,Calls Tryz.prog 48 #[.int .u64 (x : Nat)] W fun e W' => e = .returned (.int .i64 (v : Nat)) ∧ W' = W) := hsm
      clear HR2 hsm hr3
      gi_wp2_with (refine And.intro trivial ?_;gi_at_call 83;refine (CallsIn.inRound lp (callsIn_wide.2 HFT.out)).mono ?_;rintro e w5 ⟨rfl,h5,hb5⟩)
      have z3 := (hb5.cell (b := W.heap.size) (by omega) q3).trans x3
      have z9 := (hb5.cell (b := B9) (by omega) q9).trans x9
      have zf := (hb5.frozen (b := B9) (by omega) q9).trans y9
      have zq := (hb5.keep B9 (by omega) q9).2
      have HC := Lib.hid (reads_val (loadTo pp w5.drew hpb (by omega) (by omega) HX.out h5.drew') hr2)
      have HB5 : Hid (RB R Wx.heap.size Wx w5.drew) := hb5.trans (RB.drew' R _ w5)
      have hs5 := hb5.size
      clear h5 hb5 hr2
      rename_i KK hKK
      have HKK := Lib.hid hKK
      clear hKK
      have hmx : Tryz.prog.follows .mixedOrders = true := by kernel_rfl
      refine whichever_region (fun w2 => w2.cell? ⟨W.heap.size,0,none⟩ = some (.pointer (some ⟨R,0,none⟩))) [5,6,7] hmx ?_
      have hS0 : w5.drew.cell? ⟨W.heap.size,0,none⟩ = some (.pointer (some ⟨R,0,none⟩)) := z3
      refine whichever_take 0 (.pointer (some ⟨R,0,none⟩)) [1,2,5,6,7] rfl (by kernel_rfl) (fun _ _ _ h => h) hS0 (by rfl) (fun w hw => ?_) ?_
      ·constructor <;> go_simp
      refine whichever_take 1 (.pointer (some ⟨R,0,none⟩)) [2,5,6,7] rfl (by kernel_rfl) (fun _ _ _ h => h) hS0 (by rfl) (fun w hw => ?_) ?_
      ·constructor <;> go_simp
      refine whichever_take 2 (.pointer (some ⟨R,0,none⟩)) [5,6,7] rfl (by kernel_rfl) (fun _ _ _ h => h) hS0 (by rfl) (fun w hw => ?_) ?_
      ·constructor <;> go_simp
      refine whichever_take 3 (.int .i64 line) [4,5,6,7] rfl (by kernel_rfl) (fun _ _ _ h => h) hS0 (by rfl) (fun w hw => ?_) ?_
      ·constructor <;> go_simp
      refine whichever_next 4 rfl (by kernel_rfl) (by rfl) ?_
      go_simp
      refine ⟨trivial,?_⟩
      gi_at_call 79
      refine (CallsIn.inRound lp (callsIn_wide.2 (HAT1.out _))).mono ?_
      rintro e w6 ⟨rfl,rfl⟩
      simp only
      refine ⟨hS0,?_⟩
      refine whichever_next 5 rfl (by kernel_rfl) (by rfl) ?_
      go_simp
      refine ⟨trivial,?_⟩
      gi_at_call 49
      refine (CallsIn.inRound lp (callsIn_wide.2 HC.out)).mono ?_
      rintro e w6 ⟨rfl,h6,hb6⟩
      simp only
      refine whichever_next 6 rfl (by kernel_rfl) (by rfl) ?_
      go_simp
      refine ⟨trivial,?_⟩
      gi_at_call 48
      refine (CallsIn.inRound lp (callsIn_wide.2 (HSM.out _))).mono ?_
      rintro e w7 ⟨rfl,rfl⟩
      simp only
      have u9 := (hb6.cell (b := B9) (by show B9 < w5.heap.size;omega) zq).trans z9
      have uf := (hb6.frozen (b := B9) (by show B9 < w5.heap.size;omega) zq).trans zf
      have HFI : Hid (RB R Wx.heap.size Wx w7) := HB5.out.trans (hb6.mono hs5)
      clear hb6
      refine whichever_next 7 rfl (by kernel_rfl) (by rfl) ?_
      go_simp
      refine whichever_end (by kernel_rfl) ?_
      go_simp
      refine HKK.out _ _ ?_
      gi_wp2
      rw [HRE.out]
      exact ⟨rfl,w7,h6,HFI.out,rfl⟩
 ·intro l' W' hq h1 h2 h3 h4
  have HEF : Hid (findP fed top (bytesOf s) ats = .stop (.err 202) l') := by rw [Hid,HFE.out,hq.out];rfl
  have g9 := (h2.cell hV29 k9).trans c9
  have HMU := Lib.hid (fun W => must_any false 202 W)
  have hF := h2.keep
  show WpB _ _ _ _ _ _
  refine wpB_of_wp ?_
  go_wp2_with (go_at_call 51;refine (HMU.out _).mono ?_;rintro e w5 ⟨rfl,rfl⟩)
  rw [<- hs2]
  refine panic_mark h3 ?_
  rw [HEF.out]
  exact ⟨rfl,h1.putObj h4 (by omega),(HBV.out.trans (h2.mono (by omega))).putObj (by omega) h4.1⟩
 ·intro v l' W' hq h1 h2 h3 h4 h5
  have HEF : Hid (findP fed top (bytesOf s) ats = .val v l') := by rw [Hid,HFE.out,hq.out];rfl
  have hv0 : v ≠ 0 := headQ_ne hq.out
  have hne : ((v : Int) != 0) = true := by rw [bne_iff_ne];omega
  have HMU := Lib.hid (fun W => must_any true 202 W)
  show WpB _ _ _ _ _ _
  refine wpB_of_wp ?_
  go_wp2_with (go_at_call 51;refine (HMU.out _).mono ?_;rintro e w5 ⟨rfl,rfl⟩)
  rw [<- hs2]
  refine ret_mark (v := .int .i64 (v : Nat)) h4 (by simp [results,Tryz.results52,go_sem]) ?_
  rw [HEF.out]
  exact ⟨rfl,h1.putObj h5 (by omega),(HBV.out.trans (h2.mono (by omega))).putObj (by omega) h5.1⟩
 ·intro o l' W' hq h1 h2 h3 h4
  have HEF : Hid (findP fed top (bytesOf s) ats = .stop o l') := by rw [Hid,HFE.out,hq.out];rfl
  refine panic_mark h3 ?_
  rw [HEF.out]
  exact ⟨(endOf_stop _ _ _).symm,h1.putObj h4 (by omega),(HBV.out.trans (h2.mono (by omega))).putObj (by omega) h4.1⟩
end
section
open Go.RowKit
theorem chainQ_val {fed : List Nat} {s : List UInt8} : ∀ {fuel line v : Nat} {l l' : List Nat},chainQ fed s fuel line l = .val (some v) l' -> v < 1024 ∧ l'.length <= fed.length
 | 0,line,v,l,l',h => by
  rw [chainQ] at h
  split at h <;> cases h
 | fuel + 1,line,v,l,l',h => by
  rw [chainQ] at h
  split at h
  ·cases h
  ·obtain ⟨o,l1,h1,h2⟩ := bind_val h
   cases o with
   | some v' =>
    cases h2
    refine ⟨?_,roundQ_len h1⟩
    obtain ⟨b,l2,h3,h4⟩ := bind_val h1
    split at h4
    ·obtain ⟨v'',l3,h5,h6⟩ := bind_val h4
     cases h6
     obtain ⟨x,l5,h7,h8⟩ := bind_val h5
     exact (someP_ne h8).2.1
    ·cases h4
   | none =>
    obtain ⟨next,l2,h3,h4⟩ := bind_val h2
    exact chainQ_val h4
theorem findP_val {fed : List Nat} {top v : Nat} {s : List UInt8} {l l' : List Nat} (h : findP fed top s l = .val v l') : v < 1024 ∧ l'.length <= fed.length := by
 rw [findP_eq] at h
 obtain ⟨o,l1,h1,h2⟩ := bind_val h
 cases o with
 | none => cases h2
 | some v' =>
  cases h2
  obtain ⟨line,l2,h3,h4⟩ := bind_val h1
  exact chainQ_val h4
theorem nodeP_some {k t : Nat} {n : Nat × Nat × Nat} (h : nodeP k t = some n) : n.1 < 256 ∧ n.2.1 <= 200 ∧ n.2.2 < 1024 := by
 unfold nodeP at h
 split at h
 ·rename_i hc
  cases h
  exact ⟨Nat.mod_lt _ (by decide),hc.2.2.1,hc.2.2.2.2⟩
 ·cases h
theorem enterP_val {fed : List Nat} {line : Nat} {n : Nat × Nat × Nat} {l l' : List Nat} (h : enterP fed line l = .val n l') : n.1 < 256 ∧ n.2.1 <= 200 ∧ n.2.2 < 1024 ∧ l'.length <= fed.length := by
 obtain ⟨k,l1,h1,h2⟩ := bind_val h
 obtain ⟨t,l2,h3,h4⟩ := bind_val h2
 split at h4
 ·rename_i n' hn
  cases h4
  obtain ⟨a,b,c⟩ := nodeP_some hn
  exact ⟨a,b,c,loadP_len h3⟩
 ·cases h4
def encWk (t : Nat × Nat × Nat × Nat) : Value := .tuple #[.int .i64 t.1,encNd t.2]
theorem RdAt.free_lt {R : Nat} {FA : Option Addr} {nf cf : Nat} {fed ats : List Nat} {W : World} (h : RdAt R FA nf cf fed ats W) {b : Nat} (hb : b < R) : FreeAt R W b := by
 obtain ⟨v,hv,ho⟩ := h.atsv
 refine ⟨by omega,fun u hu e => ?_⟩
 rw [hv] at hu
 cases hu
 have := (ho.lt b e).1
 omega
theorem put3_size (W : World) (X : Nat) (a b c : Int) : (put3 W X a b c).heap.size = W.heap.size := by simp [put3,World.setCell]
theorem FreeAt.put3 {R : Nat} {W : World} {X k : Nat} {a b c : Int} (h : FreeAt R W k) (hne : X ≠ R) : FreeAt R (put3 W X a b c) k := ((h.set hne).set hne).set hne
theorem RdAt.put3 {R : Nat} {FA : Option Addr} {nf cf : Nat} {fed ats : List Nat} {W : World} {X : Nat} {a b c : Int} (h : RdAt R FA nf cf fed ats W) (hf : FreeAt R W X) (hR : R <= X) : RdAt R FA nf cf fed ats (put3 W X a b c) :=
 ((h.set hf (hR := hR)).set (hf.set hf.1) (hR := hR)).set ((hf.set hf.1).set hf.1) (hR := hR)
theorem RB.put3 {R n X : Nat} {W0 W : World} {a b c : Int} (h : RB R n W0 W) (hn : n <= X) (hne : X ≠ R) : RB R n W0 (put3 W X a b c) := ((h.set hn hne).set hn hne).set hn hne
theorem Arr3.rb {R n X : Nat} {W W' : World} {k l t : Int} (h : Arr3 W X k l t) (hb : RB R n W W') (hX : X < n) (hf : FreeAt R W X) : Arr3 W' X k l t :=
 ⟨⟨(hb.cell hX hf).trans h.1.1,(hb.cell hX hf).trans h.1.2.1,(hb.cell hX hf).trans h.1.2.2⟩,fun i => (hb.frozen hX hf).trans (h.2 i)⟩
variable {R : Nat} {FA : Option Addr} {nf cf : Nat} {fed : List Nat}
set_option maxRecDepth 100000 in
set_option maxHeartbeats 8000000 in
theorem walked_any (nm : List (List UInt8)) (NA : Option Addr) (nn cn : Nat) (W : World) (hnn : nm.length = nn) (hn16 : nn <= 100) (hcn : nn <= cn) (hright : ∀ x ∈ nm,rightB x = true) (hrow : RowAt W NA (nm.map fun x => .string (ofBytes x))) (hNA : 0 < nn -> ∀ b off,NA = some ⟨b,off,none⟩ -> b < R)
  (hnf : nf <= 20000) (hx64 : ∀ x ∈ fed,x < 18446744073709551616) (h : RdAt R FA nf cf fed [] W) :
  Calls Tryz.prog 29 #[.pointer (some ⟨R,0,none⟩),.slice NA nn cn] W (ReadsTo R FA nf cf fed W encWk (walkedP fed nm)) := by
 have hb1 : Below W.heap.size W (W.alloc (.cells #[.int .i64 0,.int .i64 0,.int .i64 0] 46)) := (Below.refl _ _).alloc (Nat.le_refl _) _
 have hR1 := h.below hb1
 have HFX := Lib.hid (h.free_new hb1 (Nat.le_refl _))
 have HB1 := Lib.hid (RB.of_below hb1 h.lt)
 have HX := Lib.hid hx64
 have HL := Lib.hid (fun (p : Nat) (ats : List Nat) (W : World) (hp : p < 9223372036854775808) (hl : ats.length <= 100000) (h : RdAt R FA nf cf fed ats W) => loadTo p W hp hl (by omega) hx64 h)
 have HQ : Hid (walkedP fed nm = (loadP fed 1 []).bind fun x ats => (someP x ats).bind fun line ats => (enterP fed line ats).bind fun n ats => walkL fed nm line n ats) := rfl
 have hfl : fed.length = nf := h.fedl
 have hRlt := h.lt
 have hA1 : Arr3 (W.alloc (.cells #[.int .i64 0,.int .i64 0,.int .i64 0] 46)) W.heap.size 0 0 0 := ⟨⟨cell_new W _ _ 0 _ rfl,cell_new W _ _ 1 _ rfl,cell_new W _ _ 2 _ rfl⟩,fun i => (World.frozen?_of_block (w := W.alloc (.cells #[.int .i64 0,.int .i64 0,.int .i64 0] 46)) rfl).trans (by simp)⟩
 obtain ⟨W1,hW1⟩ : ∃ W1,W.alloc (.cells #[.int .i64 0,.int .i64 0,.int .i64 0] 46) = W1 := ⟨_,rfl⟩
 have hs1 : W1.heap.size = W.heap.size + 1 := by rw [<- hW1];simp
 rw [hW1] at hA1 hb1 hR1 HFX HB1
 have HR1 := Lib.hid hR1
 have HA1 := Lib.hid hA1
 have HROW := Lib.hid hrow
 have HNA := Lib.hid hNA
 have HRI := Lib.hid hright
 have HFLT := Lib.hid (fun b (hb : b < R) => h.free_lt hb)
 clear h hx64 hR1 hA1 hrow hNA hright
 generalize hr1 : loadP fed 1 [] = r1 at HQ
 cases r1 with
 | stop o l1 =>
  have HEF : Hid (walkedP fed nm = .stop o l1) := HQ.out
  have HC := Lib.hid (reads_stop (HL.out 1 [] W1 (by omega) (by simp) HR1.out) hr1)
  clear hr1 HQ
  go_enter Tryz.func29,Tryz.ntmps29
  go_wp2_with fail
  refine HC.out.mono ?_
  rintro e w2 ⟨rfl,h2,hb2⟩
  go_wp2_with fail
  exact ⟨rfl,by rw [HEF.out];exact ⟨(endOf_stop _ _ _).symm,h2,HB1.out.trans (hb2.mono (by omega))⟩⟩
 | val x l1 =>
  obtain ⟨_,hxf⟩ := loadP_val hr1
  have hx := HX.out x hxf
  have hlen1 := loadP_len hr1
  rw [hfl] at hlen1
  have HC := Lib.hid (reads_val (HL.out 1 [] W1 (by omega) (by simp) HR1.out) hr1)
  have HQ1 : Hid (walkedP fed nm = (someP x l1).bind fun line ats => (enterP fed line ats).bind fun n ats => walkL fed nm line n ats) := HQ.out
  have hsm := fun W => some_any x W hx l1
  clear hr1 HQ hxf
  generalize hr2 : someP x l1 = r2 at HQ1 hsm
  cases r2 with
  | stop o l2 =>
   have hl2 : l2 = l1 := by
    unfold someP pointerP at hr2
    split at hr2
    ·cases hr2;rfl
    ·split at hr2
     ·cases hr2
     ·cases hr2;rfl
   subst hl2
   have HEF : Hid (walkedP fed nm = .stop o l2) := HQ1.out
   have HSM : Hid (∀ W,Calls Tryz.prog 48 #[.int .u64 (x : Nat)] W fun e W' => e = .panicked [outV o] ∧ W' = W) := fun W => (hsm W).mono fun e w h => ⟨h.1.trans (endOf_stop _ _ _),h.2⟩
   clear HQ1 hsm hr2
   go_enter Tryz.func29,Tryz.ntmps29
   go_wp2_with fail
   refine HC.out.mono ?_
   rintro e w2 ⟨rfl,h2,hb2⟩
   go_wp2_with (go_at_call 48;refine (HSM.out _).mono ?_;rintro e w3 ⟨rfl,rfl⟩)
   exact ⟨rfl,by rw [HEF.out];exact ⟨(endOf_stop _ _ _).symm,h2,HB1.out.trans (hb2.mono (by omega))⟩⟩
  | val ln l2 =>
   obtain ⟨hv0,hv1,rfl⟩ := someP_ne hr2
   have HQ2 : Hid (walkedP fed nm = (enterP fed ln l2).bind fun n ats => walkL fed nm ln n ats) := HQ1.out
   have HSM : Hid (∀ W,Calls Tryz.prog 48 #[.int .u64 (x : Nat)] W fun e W' => e = .returned (.int .i64 (ln : Nat)) ∧ W' = W) := hsm
   have HEN := Lib.hid (fun (ln : Nat) (l : List Nat) (W : World) (h1 : ln < 1024) (h2 : l.length <= nf) (h3 : RdAt R FA nf cf fed l W) => enter_any ln W (by omega) (by omega) (by omega) HX.out h3)
   clear HQ1 hsm hr2
   generalize hr3 : enterP fed ln l2 = r3 at HQ2
   cases r3 with
   | stop o l3 =>
    have HEF : Hid (walkedP fed nm = .stop o l3) := HQ2.out
    go_enter Tryz.func29,Tryz.ntmps29
    go_wp2_with fail
    refine HC.out.mono ?_
    rintro e w2 ⟨rfl,h2,hb2⟩
    have hs2 := hb2.size
    have HB2 := Lib.hid (HB1.out.trans (hb2.mono (by omega)))
    have HE := Lib.hid (reads_stop (HEN.out ln l2 w2 hv1 hlen1 h2) hr3)
    clear h2 hb2
    go_wp2_with (first | (go_at_call 48;refine (HSM.out _).mono ?_;rintro e w3 ⟨rfl,rfl⟩) | (go_at_call 50;refine HE.out.mono ?_;rintro e w4 ⟨rfl,h4,hb4⟩))
    exact ⟨rfl,by rw [HEF.out];exact ⟨(endOf_stop _ _ _).symm,h4,HB2.out.trans (hb4.mono (by have := HB2.out.size;omega))⟩⟩
   | val nd l3 =>
    obtain ⟨a,b,c⟩ := nd
    obtain ⟨ha,hb,hc,hlen3⟩ := enterP_val hr3
    rw [hfl] at hlen3
    simp only at ha hb hc
    have HQ3 : Hid (walkedP fed nm = walkL fed nm ln (a,b,c) l3) := HQ2.out
    clear HQ2
    go_enter Tryz.func29,Tryz.ntmps29
    go_wp2_with fail
    refine HC.out.mono ?_
    rintro e w2 ⟨rfl,h2,hb2⟩
    have hs2 := hb2.size
    have HB2 := Lib.hid (HB1.out.trans (hb2.mono (by omega)))
    have HE := reads_val (HEN.out ln l2 w2 hv1 hlen1 h2) hr3
    unfold encNd encN at HE
    have HE := Lib.hid HE
    have hf2 := (hb2.keep W.heap.size (by omega) HFX.out).2
    have hA2 := HA1.out.rb hb2 (by omega) HFX.out
    clear h2 hb2 hr3
    go_wp2_with (first | (go_at_call 48;refine (HSM.out _).mono ?_;rintro e w3 ⟨rfl,rfl⟩))
    refine HE.out.mono ?_
    rintro e w4 ⟨rfl,h4,hb4⟩
    have hA4 := hA2.rb hb4 (by omega) hf2
    have hf4 := (hb4.keep W.heap.size (by omega) hf2).2
    have hs4 := hb4.size
    have HB4 := Lib.hid (HB2.out.trans (hb4.mono (by omega)))
    have HP := Lib.hid (put3_arr hA4 a b c)
    have HR4 := Lib.hid (RdAt.put3 (a := a) (b := b) (c := c) h4 hf4 (by omega))
    have HF4 := Lib.hid (FreeAt.put3 (X := W.heap.size) (a := a) (b := b) (c := c) hf4 (by omega))
    have HB5 := Lib.hid (RB.put3 (a := a) (b := b) (c := c) HB4.out (Nat.le_refl _) (by omega))
    obtain ⟨⟨x0,x1,x2⟩,xf⟩ := hA4
    have y0 := xf 0
    have y1 := xf 1
    have y2 := xf 2
    unfold put3 at HP HR4 HF4 HB5
    clear hb4 h4 hf4 hA2 hf2 xf HE
    go_wp2_with fail
    go_loopw [4,18] (fun lnv i wr => ∃ (j ln a b c : Nat) (l' : List Nat),j <= nn ∧ i = .int .i64 j ∧ lnv = .int .i64 ln ∧ ln < 1024 ∧ a < 256 ∧ b <= 200 ∧ c < 1024 ∧ l'.length <= nf ∧ RdAt R FA nf cf fed l' wr ∧ RB R W.heap.size W wr ∧ FreeAt R wr W.heap.size ∧ Arr3 wr W.heap.size a b c ∧ Hid (walkedP fed nm = walkL fed (nm.drop j) ln (a,b,c) l')) (fun _ i _ => nn - (intOf i).toNat)
    case atStart => exact ⟨0,ln,a,b,c,l3,Nat.zero_le _,rfl,rfl,hv1,ha,hb,hc,hlen3,HR4.out,HB5.out,HF4.out,HP.out,HQ3.out⟩
    case round =>
     obtain ⟨j,ln2,a2,b2,c2,l',hj,rfl,rfl,hln2,ha2,hb2,hc2,hl',hrd,hrb,hfr,hA,hq⟩ := hrel
     by_cases hlt : j < nn
     ·have hjl : j < nm.length := by omega
      obtain ⟨x',hx'⟩ : ∃ x',nm[j]? = some x' := ⟨_,List.getElem?_eq_getElem hjl⟩
      have hdrop : nm.drop j = x' :: nm.drop (j + 1) := by
       rw [List.drop_eq_getElem_cons hjl]
       exact congrArg (· :: nm.drop (j + 1)) (Option.some.inj ((List.getElem?_eq_getElem hjl).symm.trans hx'))
      have hxr := HRI.out x' (List.mem_of_getElem? hx')
      obtain ⟨b0,off0,hNAe,hb0,hcells⟩ := HROW.out (by rw [List.length_map];omega)
      have hb0R := HNA.out (by omega) b0 off0 hNAe
      have hcj : wr.cell? ⟨b0,off0 + j,none⟩ = some (.string (ofBytes x')) := (hrb.cell hb0 (HFLT.out b0 hb0R)).trans (hcells j _ (by rw [List.getElem?_map,hx'];rfl))
      have HQ4 : Hid (walkedP fed nm = if a2 = 2 then (findP fed c2 x' l').bind fun line ats => (enterP fed line ats).bind fun n ats => walkL fed (nm.drop (j + 1)) line n ats else .stop (.err 201) l') := by rw [Hid,hq.out,hdrop];rfl
      have hj0 : (0 : Int) <= (j : Int) := by omega
      have hjm : (j : Int) < (nn : Int) := by omega
      have hjn : IntKind.i64.wrap ((j : Int) + 1) = ((j + 1 : Nat) : Int) := by rw [IntWalk.i64_in _ (by omega)];omega
      have HAA := Lib.hid hA
      obtain ⟨⟨x0,x1,x2⟩,xf⟩ := id hA
      have y0 := xf 0
      have y1 := xf 1
      have y2 := xf 2
      subst hNAe
      clear hq hdrop hcells xf hA
      by_cases h22 : a2 = 2
      ·have hk1 : ((a2 : Int) == 2) = true := by rw [beq_iff_eq];omega
       have HMU := Lib.hid (fun W => must_any true 201 W)
       have HQ5 : Hid (walkedP fed nm = (findP fed c2 x' l').bind fun line ats => (enterP fed line ats).bind fun n ats => walkL fed (nm.drop (j + 1)) line n ats) := by rw [Hid,HQ4.out,if_pos h22]
       have hfd := find_any c2 (ofBytes x') wr hc2 (by rw [bytesOf_ofBytes];exact hxr) (by omega) hnf HX.out hrd
       rw [bytesOf_ofBytes] at hfd
       clear HQ4
       generalize hr4 : findP fed c2 x' l' = r4 at HQ5 hfd
       cases r4 with
       | stop o l4 =>
        have HEF : Hid (walkedP fed nm = .stop o l4) := HQ5.out
        have HFD := Lib.hid (reads_stop hfd rfl)
        have HRB := Lib.hid hrb
        have hsr := hrb.size
        clear hfd HQ5 hr4 hrb
        go_wp2_with (first | (go_at_call 51;refine (HMU.out _).mono ?_;rintro e w5 ⟨rfl,rfl⟩) | (go_at_call 52;refine HFD.out.mono ?_;rintro e w6 ⟨rfl,h6,hb6⟩))
        exact ⟨rfl,by rw [HEF.out];exact ⟨(endOf_stop _ _ _).symm,h6,HRB.out.trans (hb6.mono hsr)⟩⟩
       | val v l4 =>
        obtain ⟨hv,hlen4⟩ := findP_val hr4
        rw [hfl] at hlen4
        have HQ6 : Hid (walkedP fed nm = (enterP fed v l4).bind fun n ats => walkL fed (nm.drop (j + 1)) v n ats) := HQ5.out
        have HFD := Lib.hid (reads_val hfd rfl)
        have HRB := Lib.hid hrb
        have HFR := Lib.hid hfr
        have hsr := hrb.size
        have hWr : W.heap.size < wr.heap.size := World.block_lt_of_cell? wr ⟨W.heap.size,0,none⟩ x0
        clear hfd HQ5 hr4 hrb hfr
        generalize hr5 : enterP fed v l4 = r5 at HQ6
        go_wp2_with (first | (go_at_call 51;refine (HMU.out _).mono ?_;rintro e w5 ⟨rfl,rfl⟩) | (go_at_call 52;refine HFD.out.mono ?_;rintro e w6 ⟨rfl,h6,hb6⟩))
        have hs6 := hb6.size
        have HB6 := Lib.hid (HRB.out.trans (hb6.mono hsr))
        have HA6 := Lib.hid (HAA.out.rb hb6 hWr HFR.out)
        have HF6 := Lib.hid (hb6.keep W.heap.size hWr HFR.out).2
        cases r5 with
        | stop o l5 =>
         have HEF : Hid (walkedP fed nm = .stop o l5) := HQ6.out
         have HE := Lib.hid (reads_stop (HEN.out v l4 _ hv hlen4 h6) hr5)
         clear h6 hb6 hr5
         refine HE.out.mono ?_
         rintro e w7 ⟨rfl,h7,hb7⟩
         go_wp2_with fail
         exact ⟨rfl,by rw [HEF.out];exact ⟨(endOf_stop _ _ _).symm,h7,HB6.out.trans (hb7.mono (by omega))⟩⟩
        | val nd l5 =>
         obtain ⟨a3,b3,c3⟩ := nd
         obtain ⟨ha3,hb3,hc3,hlen5⟩ := enterP_val hr5
         rw [hfl] at hlen5
         simp only at ha3 hb3 hc3
         have HQ7 : Hid (walkedP fed nm = walkL fed (nm.drop (j + 1)) v (a3,b3,c3) l5) := HQ6.out
         have HE := reads_val (HEN.out v l4 _ hv hlen4 h6) hr5
         unfold encNd encN at HE
         have HE := Lib.hid HE
         clear h6 hb6 hr5 HQ6 x0 x1 x2 y0 y1 y2
         refine HE.out.mono ?_
         rintro e w7 ⟨rfl,h7,hb7⟩
         have hA7 := HA6.out.rb hb7 (by omega) HF6.out
         have hf7 := (hb7.keep W.heap.size (by omega) HF6.out).2
         have HB7 := Lib.hid (HB6.out.trans (hb7.mono (by omega)))
         have HP7 := Lib.hid (put3_arr hA7 a3 b3 c3)
         have HR7 := Lib.hid (RdAt.put3 (a := a3) (b := b3) (c := c3) h7 hf7 (by omega))
         have HF7 := Lib.hid (FreeAt.put3 (X := W.heap.size) (a := a3) (b := b3) (c := c3) hf7 (by omega))
         have HB8 := Lib.hid (RB.put3 (a := a3) (b := b3) (c := c3) HB7.out (Nat.le_refl _) (by omega))
         obtain ⟨⟨x0,x1,x2⟩,xf⟩ := hA7
         have y0 := xf 0
         have y1 := xf 1
         have y2 := xf 2
         unfold put3 at HP7 HR7 HF7 HB8
         clear hb7 h7 hf7 xf HE HA6 HF6
         go_wp2_with fail
         go_roundw
         case rel => exact ⟨j + 1,v,a3,b3,c3,l5,by omega,rfl,rfl,hv,ha3,hb3,hc3,hlen5,HR7.out,HB8.out,HF7.out,HP7.out,HQ7.out⟩
         case measure => simp [intOf];omega
      ·have hk1 : ((a2 : Int) == 2) = false := by rw [beq_eq_false_iff_ne];omega
       have HMU := Lib.hid (fun W => must_any false 201 W)
       have HEF : Hid (walkedP fed nm = .stop (.err 201) l') := by rw [Hid,HQ4.out,if_neg h22]
       have HRB := Lib.hid hrb
       clear HQ4 hrb
       go_wp2_with (first | (go_at_call 51;refine (HMU.out _).mono ?_;rintro e w5 ⟨rfl,rfl⟩))
       exact ⟨rfl,by rw [HEF.out];exact ⟨rfl,hrd,HRB.out⟩⟩
     ·have hjm : j = nn := by omega
      subst hjm
      have HEF : Hid (walkedP fed nm = .val (ln2,a2,b2,c2) l') := by
       rw [Hid,hq.out,List.drop_eq_nil_of_le (by omega)];rfl
      obtain ⟨⟨x0,x1,x2⟩,xf⟩ := id hA
      have y0 := xf 0
      have y1 := xf 1
      have y2 := xf 2
      have HRB := Lib.hid hrb
      clear hq hrb xf
      go_wp2_with fail
      have HP7 := Lib.hid (put3_arr hA a2 b2 c2)
      have HR7 := Lib.hid (RdAt.put3 (a := a2) (b := b2) (c := c2) hrd hfr (by omega)).drew'
      have HB8 := Lib.hid ((RB.put3 (a := a2) (b := b2) (c := c2) HRB.out (Nat.le_refl _) (by omega)).trans (RB.drew' R W.heap.size _))
      obtain ⟨⟨g0,g1,g2⟩,_⟩ := HP7.out
      unfold put3 at g0 g1 g2 HR7 HB8
      refine box_tail 3 (by kernel_rfl) (by kernel_rfl) ?_
      simp only [List.take_succ_cons,List.take_zero,List.drop_succ_cons,List.drop_zero]
      iterate 3
       refine box_step (fun K hK => ?_)
       go_simp
       refine hK _ ?_
       clear hK K
      refine ⟨wpStill_nil ?_⟩
      go_wp2_with fail
      refine bodyPost_ret (v := encWk (ln2,a2,b2,c2)) (by simp [results,Tryz.results29,go_sem,g0,g1,g2,encWk,encNd,encN]) rfl ?_
      rw [HEF.out]
      exact ⟨rfl,HR7.out,HB8.out⟩
end
section
open Go.RowKit
theorem as_need_nil (w : World) : (Instr.typeAssert .nilIface 20 109 true).run Tryz.prog w = .ok (.tuple #[.int .i64 0,.bool false]) w := by kernel_rfl
theorem as_err_nil (w : World) : (Instr.typeAssert .nilIface 20 29 true).run Tryz.prog w = .ok (.tuple #[.int .i64 0,.bool false]) w := by kernel_rfl
theorem as_need_need (n : Int) (w : World) : (Instr.typeAssert (.iface 109 (.int .i64 n)) 20 109 true).run Tryz.prog w = .ok (.tuple #[.int .i64 n,.bool true]) w := by kernel_rfl
theorem as_need_err (n : Int) (w : World) : (Instr.typeAssert (.iface 29 (.int .i64 n)) 20 109 true).run Tryz.prog w = .ok (.tuple #[.int .i64 0,.bool false]) w := by kernel_rfl
theorem as_err_err (n : Int) (w : World) : (Instr.typeAssert (.iface 29 (.int .i64 n)) 20 29 true).run Tryz.prog w = .ok (.tuple #[.int .i64 n,.bool true]) w := by kernel_rfl
structure Recovers (f : FuncId) : Prop where
 idle : ∀ (A M E : Addr) (w : World),CallsD Tryz.prog f #[.pointer (some A),.pointer (some M),.pointer (some E)] .returning w fun e u' w' => e = .returned (.tuple #[]) ∧ u' = .returning ∧ w' = w
 need : ∀ (A M E p : Nat) (older : List PanicEntry) (a0 m0 : Value) (w : World),A ≠ M -> w.cell? ⟨A,0,none⟩ = some a0 -> w.frozen? ⟨A,0,none⟩ = false -> w.cell? ⟨M,0,none⟩ = some m0 -> w.frozen? ⟨M,0,none⟩ = false ->
  CallsD Tryz.prog f #[.pointer (some ⟨A,0,none⟩),.pointer (some ⟨M,0,none⟩),.pointer (some ⟨E,0,none⟩)] (.panicking (needV p :: older)) w fun e u' w' =>
   e = .returned (.tuple #[]) ∧ u' = .panicking ({ v := .iface 109 (.int .i64 p),recovered := true } :: older) ∧ w' = (w.setCell ⟨A,0,none⟩ (.int .i64 p)).setCell ⟨M,0,none⟩ (.bool true)
 err : ∀ (A M E c : Nat) (older : List PanicEntry) (e0 : Value) (w : World),w.cell? ⟨E,0,none⟩ = some e0 -> w.frozen? ⟨E,0,none⟩ = false ->
  CallsD Tryz.prog f #[.pointer (some ⟨A,0,none⟩),.pointer (some ⟨M,0,none⟩),.pointer (some ⟨E,0,none⟩)] (.panicking (errV c :: older)) w fun e u' w' =>
   e = .returned (.tuple #[]) ∧ u' = .panicking ({ v := .iface 29 (.int .i64 c),recovered := true } :: older) ∧ w' = w.setCell ⟨E,0,none⟩ (.int .i64 c)
set_option maxRecDepth 100000 in
theorem walk_recovers : Recovers 47 := by
 refine ⟨fun A M E w => ?_,fun A M E p older a0 m0 w hne hA hAf hM hMf => ?_,fun A M E c older e0 w hE hEf => ?_⟩
 ·refine callsD_of_wpS Tryz.func47 rfl fun c₀ cs hu => ?_
  simp only [Tryz.ntmps47,List.size_toArray,List.length_cons,List.length_nil,Nat.reduceAdd,Nat.reduceSub,Array.replicate_succ,Array.replicate_zero,List.push_toArray,List.append_toArray,List.nil_append,List.cons_append]
  apply wpS_seq
  apply wpS_region
  simp [wpOpsS,go_sem,recoverD,hu,Exit.thenS]
  refine wpS_of_wp ?_
  have h1 := as_need_nil
  have h2 := as_err_nil
  go_wp2
  cases c₀
  simp_all [bodyPostS,results,Tryz.results47]
 ·refine callsD_of_wpS Tryz.func47 rfl fun c₀ cs hu => ?_
  simp only [Tryz.ntmps47,List.size_toArray,List.length_cons,List.length_nil,Nat.reduceAdd,Nat.reduceSub,Array.replicate_succ,Array.replicate_zero,List.push_toArray,List.append_toArray,List.nil_append,List.cons_append]
  apply wpS_seq
  apply wpS_region
  simp [wpOpsS,go_sem,recoverD,hu,Exit.thenS,needV]
  refine wpS_of_wp ?_
  have h1 := as_need_need
  have k1 : (w.setCell ⟨A,0,none⟩ (.int .i64 p)).cell? ⟨M,0,none⟩ = some m0 := (World.cell?_setCell_other _ _ _ _ (by intro e;injection e with e;exact hne e)).trans hM
  have k2 : (w.setCell ⟨A,0,none⟩ (.int .i64 p)).frozen? ⟨M,0,none⟩ = false := (World.frozen?_setCell _ _ _ _).trans hMf
  go_wp2
  exact ⟨rfl,_,rfl,.tuple #[],results_none rfl _ _ _,rfl,rfl,rfl⟩
 ·refine callsD_of_wpS Tryz.func47 rfl fun c₀ cs hu => ?_
  simp only [Tryz.ntmps47,List.size_toArray,List.length_cons,List.length_nil,Nat.reduceAdd,Nat.reduceSub,Array.replicate_succ,Array.replicate_zero,List.push_toArray,List.append_toArray,List.nil_append,List.cons_append]
  apply wpS_seq
  apply wpS_region
  simp [wpOpsS,go_sem,recoverD,hu,Exit.thenS,errV]
  refine wpS_of_wp ?_
  have h1 := as_need_err
  have h2 := as_err_err
  go_wp2
  exact ⟨rfl,_,rfl,.tuple #[],results_none rfl _ _ _,rfl,rfl,rfl⟩
end
section
open Go.RowKit
def CellsAt (W : World) (X n : Nat) (f : Nat -> Value) : Prop := (∀ i,i < n -> W.cell? ⟨X,i,none⟩ = some (f i)) ∧ ∀ i,W.frozen? ⟨X,i,none⟩ = false
def putTo (W : World) (X : Nat) (f : Nat -> Value) : Nat -> World
 | 0 => W
 | k + 1 => (putTo W X f k).setCell ⟨X,k,none⟩ (f k)
section
variable {W W' : World} {X n : Nat} {f g : Nat -> Value}
theorem putTo_other {b i : Nat} (hne : b ≠ X) : ∀ k,(putTo W X f k).cell? ⟨b,i,none⟩ = W.cell? ⟨b,i,none⟩
 | 0 => rfl
 | k + 1 => (World.cell?_setCell_other _ _ _ _ (by intro e;injection e with e;exact hne e.symm)).trans (putTo_other hne k)
theorem putTo_frozen (a : Addr) : ∀ k,(putTo W X f k).frozen? a = W.frozen? a
 | 0 => rfl
 | k + 1 => (World.frozen?_setCell _ _ _ _).trans (putTo_frozen a k)
theorem putTo_size : ∀ k,(putTo W X f k).heap.size = W.heap.size
 | 0 => rfl
 | k + 1 => by rw [putTo];simpa [World.setCell] using putTo_size k
theorem putTo_at (h : CellsAt W X n g) : ∀ k,k <= n -> CellsAt (putTo W X f k) X n fun i => if i < k then f i else g i
 | 0,_ => ⟨fun i hi => (h.1 i hi).trans (by simp),h.2⟩
 | k + 1,hk => by
  have ih := putTo_at h k (by omega)
  refine ⟨fun i hi => ?_,fun i => (World.frozen?_setCell _ _ _ _).trans (ih.2 i)⟩
  by_cases e : i = k
  ·subst e
   rw [putTo,World.cell?_setCell_same' _ _ _ (by rw [ih.1 i hi];rfl)]
   exact congrArg some (if_pos (by omega)).symm
  ·rw [putTo,World.cell?_setCell_other _ _ _ _ (by intro h;injection h with _ h;exact e h.symm),ih.1 i hi]
   by_cases h2 : i < k
   ·exact congrArg some ((if_pos h2).trans (if_pos (by omega)).symm)
   ·exact congrArg some ((if_neg h2).trans (if_neg (by omega)).symm)
theorem putTo_all (h : CellsAt W X n g) : CellsAt (putTo W X f n) X n f := by
 have := putTo_at (f := f) h n (Nat.le_refl _)
 exact ⟨fun i hi => (this.1 i hi).trans (congrArg some (if_pos hi)),this.2⟩
theorem CellsAt.below {m : Nat} (h : CellsAt W X n f) (hb : Below m W W') (hX : X < m) : CellsAt W' X n f := ⟨fun i hi => (hb.cell (p := ⟨X,i,none⟩) hX).trans (h.1 i hi),fun i => (hb.frozen (p := ⟨X,i,none⟩) hX).trans (h.2 i)⟩
theorem CellsAt.rb {R m : Nat} (h : CellsAt W X n f) (hb : RB R m W W') (hX : X < m) (hf : FreeAt R W X) : CellsAt W' X n f := ⟨fun i hi => (hb.cell hX hf).trans (h.1 i hi),fun i => (hb.frozen hX hf).trans (h.2 i)⟩
theorem CellsAt.set {B i : Nat} {v : Value} (h : CellsAt W X n f) (hne : B ≠ X) : CellsAt (W.setCell ⟨B,i,none⟩ v) X n f :=
 ⟨fun j hj => (World.cell?_setCell_other _ _ _ _ (by intro e;injection e with e;exact hne e)).trans (h.1 j hj),fun j => (World.frozen?_setCell _ _ _ _).trans (h.2 j)⟩
theorem CellsAt.put {B m : Nat} (h : CellsAt W X n f) (hne : X ≠ B) : CellsAt (putTo W B g m) X n f := ⟨fun i hi => (putTo_other hne m).trans (h.1 i hi),fun i => (putTo_frozen _ m).trans (h.2 i)⟩
theorem FreeAt.putTo {R k : Nat} (h : FreeAt R W k) (hne : X ≠ R) : ∀ m,FreeAt R (putTo W X f m) k
 | 0 => h
 | m + 1 => (FreeAt.putTo h hne m).set hne
theorem RdAt.putTo {R : Nat} {FA : Option Addr} {nf cf : Nat} {fed ats : List Nat} (h : RdAt R FA nf cf fed ats W) (hf : FreeAt R W X) (hR : R <= X) : ∀ m,RdAt R FA nf cf fed ats (putTo W X f m)
 | 0 => h
 | m + 1 => (RdAt.putTo h hf hR m).set (hf.putTo hf.1 m) hR
theorem RB.putTo {R k : Nat} {W0 : World} (h : RB R k W0 W) (hn : k <= X) (hne : X ≠ R) : ∀ m,RB R k W0 (putTo W X f m)
 | 0 => h
 | m + 1 => (RB.putTo h hn hne m).set hn hne
end
def cellsW (more at_ used no line k l t : Value) : Nat -> Value
 | 0 => more
 | 1 => at_
 | 2 => used
 | 3 => no
 | 4 => line
 | 5 => k
 | 6 => l
 | _ => t
def zeroW : Nat -> Value := cellsW (.bool false) (.int .i64 0) (.int .i64 0) (.int .i64 0) (.int .i64 0) (.int .i64 0) (.int .i64 0) (.int .i64 0)
def lineW (t : Nat × Nat × Nat × Nat) : Nat -> Value := cellsW (.bool false) (.int .i64 0) (.int .i64 0) (.int .i64 0) (.int .i64 t.1) (.int .i64 t.2.1) (.int .i64 t.2.2.1) (.int .i64 t.2.2.2)
def agg8 (f : Nat -> Value) : Value := .agg #[f 0,f 1,f 2,f 3,f 4,f 5,f 6,f 7]
def encLW (t : Nat × Nat × Nat × Nat) : Value := agg8 (lineW t)
def toldV {α : Type} (enc : α -> Value) (zero : Value) : Res α -> Value
 | .val a _ => .tuple #[enc a,.int .i64 0,.int .i64 0,.bool false]
 | .stop (.need p) _ => .tuple #[zero,.int .i64 0,.int .i64 p,.bool true]
 | .stop (.err c) _ => .tuple #[zero,.int .i64 c,.int .i64 0,.bool false]
variable {R : Nat} {FA : Option Addr} {nf cf : Nat} {fed ats : List Nat}
set_option maxRecDepth 100000 in
set_option maxHeartbeats 4000000 in
theorem toldW_any (Rb Nb : Nat) (r : Res (Nat × Nat × Nat × Nat)) (W : World) (h : RdAt R FA nf cf fed ats W)
  (hread : ∀ W',Below W.heap.size W W' -> Calls Tryz.prog 28 #[.pointer (some ⟨Rb,0,none⟩),.pointer (some ⟨Nb,0,none⟩)] W' (ReadsTo R FA nf cf fed W' encLW r)) :
  Calls Tryz.prog 27 #[.func (.func 28) #[] #[.pointer (some ⟨Rb,0,none⟩),.pointer (some ⟨Nb,0,none⟩)]] W fun e W' =>
   e = .returned (toldV encLW (agg8 zeroW) r) ∧ RdAt R FA nf cf fed r.ats W' ∧ RB R W.heap.size W W' := by
 have hmf : ∀ (fn : Fn) (first cap : Array Value) (w : World),(Instr.makeFunc fn first cap).run Tryz.prog w = .ok (.func fn first cap) w := fun _ _ _ _ => rfl
 obtain ⟨W0,hW0⟩ : ∃ W0,lay4 W #[.bool false,.int .i64 0,.int .i64 0,.int .i64 0,.int .i64 0,.int .i64 0,.int .i64 0,.int .i64 0] #[.int .i64 0] #[.int .i64 0] #[.bool false] 48 29 3 4 = W0 := ⟨_,rfl⟩
 have hb0 : Below W.heap.size W W0 := by rw [<- hW0];exact lay4_below ..
 have hs0 : W0.heap.size = W.heap.size + 4 := by rw [<- hW0];exact lay4_size ..
 have HRD := Lib.hid (hread W0 hb0)
 have hF : ∀ b,W.heap.size <= b -> FreeAt R W0 b := fun b hb => h.free_new hb0 hb
 have hCO : CellsAt W0 W.heap.size 8 zeroW := ⟨fun i hi => by
  rw [<- hW0]
  match i,hi with
  | 0,_ => exact lay4_0 _ _ _ _ _ _ _ _ _ 0 _ rfl
  | 1,_ => exact lay4_0 _ _ _ _ _ _ _ _ _ 1 _ rfl
  | 2,_ => exact lay4_0 _ _ _ _ _ _ _ _ _ 2 _ rfl
  | 3,_ => exact lay4_0 _ _ _ _ _ _ _ _ _ 3 _ rfl
  | 4,_ => exact lay4_0 _ _ _ _ _ _ _ _ _ 4 _ rfl
  | 5,_ => exact lay4_0 _ _ _ _ _ _ _ _ _ 5 _ rfl
  | 6,_ => exact lay4_0 _ _ _ _ _ _ _ _ _ 6 _ rfl
  | 7,_ => exact lay4_0 _ _ _ _ _ _ _ _ _ 7 _ rfl,fun i => by rw [<- hW0];exact lay4_frozen _ _ _ _ _ _ _ _ _ _ i (Nat.le_refl _)⟩
 have hCE : CellsAt W0 (W.heap.size + 1) 1 (fun _ => .int .i64 0) := ⟨fun i hi => by rw [<- hW0,show i = 0 from by omega];exact lay4_1 _ _ _ _ _ _ _ _ _ 0 _ rfl,fun i => by rw [<- hW0];exact lay4_frozen _ _ _ _ _ _ _ _ _ _ i (by omega)⟩
 have hCA : CellsAt W0 (W.heap.size + 2) 1 (fun _ => .int .i64 0) := ⟨fun i hi => by rw [<- hW0,show i = 0 from by omega];exact lay4_2 _ _ _ _ _ _ _ _ _ 0 _ rfl,fun i => by rw [<- hW0];exact lay4_frozen _ _ _ _ _ _ _ _ _ _ i (by omega)⟩
 have hCM : CellsAt W0 (W.heap.size + 3) 1 (fun _ => .bool false) := ⟨fun i hi => by rw [<- hW0,show i = 0 from by omega];exact lay4_3 _ _ _ _ _ _ _ _ _ 0 _ rfl,fun i => by rw [<- hW0];exact lay4_frozen _ _ _ _ _ _ _ _ _ _ i (by omega)⟩
 have HB0 := Lib.hid (RB.of_below hb0 h.lt)
 have hRl := h.lt
 unfold lay4 at hW0
 have HF := Lib.hid hF
 have HCO := Lib.hid hCO
 have HCE := Lib.hid hCE
 have HCA := Lib.hid hCA
 have HCM := Lib.hid hCM
 clear hread hb0 h hF hCO hCE hCA hCM
 go_enter_defers Tryz.func27,Tryz.ntmps27
 cases r with
 | stop o l =>
  have HC := Lib.hid (reads_stop HRD.out rfl)
  clear HRD
  go_wp2_with fail
  refine HC.out.mono ?_
  rintro e w2 ⟨rfl,h2,hb2⟩
  have hO := HCO.out.rb hb2 (by omega) (HF.out _ (Nat.le_refl _))
  have hE := HCE.out.rb hb2 (by omega) (HF.out _ (by omega))
  have hA := HCA.out.rb hb2 (by omega) (HF.out _ (by omega))
  have hM := HCM.out.rb hb2 (by omega) (HF.out _ (by omega))
  have fE := (hb2.keep (W.heap.size + 1) (by omega) (HF.out _ (by omega))).2
  have fA := (hb2.keep (W.heap.size + 2) (by omega) (HF.out _ (by omega))).2
  have fM := (hb2.keep (W.heap.size + 3) (by omega) (HF.out _ (by omega))).2
  have HB2 := Lib.hid (HB0.out.trans (hb2.mono (by omega)))
  clear hb2 HC HF HCO HCE HCA HCM
  cases o with
  | need p =>
   go_wp2_with fail
   refine leaves_cons (f := 47) (args := #[.pointer (some ⟨W.heap.size + 2,0,none⟩),.pointer (some ⟨W.heap.size + 3,0,none⟩),.pointer (some ⟨W.heap.size + 1,0,none⟩)]) (by simp) (by simp [go_sem]) ?_
   refine (walk_recovers.need (W.heap.size + 2) (W.heap.size + 3) (W.heap.size + 1) p [] _ _ _ (by omega) (hA.1 0 (by omega)) (hA.2 0) (hM.1 0 (by omega)) (hM.2 0)).mono ?_
   rintro e u' w3 ⟨rfl,rfl,rfl⟩
   have o3 := (hO.set (B := W.heap.size + 2) (i := 0) (v := .int .i64 (p : Nat)) (by omega)).set (B := W.heap.size + 3) (i := 0) (v := .bool true) (by omega)
   have e3 := ((hE.set (B := W.heap.size + 2) (i := 0) (v := .int .i64 (p : Nat)) (by omega)).set (B := W.heap.size + 3) (i := 0) (v := .bool true) (by omega)).1 0 (by omega)
   have m3 : ((w2.setCell ⟨W.heap.size + 2,0,none⟩ (.int .i64 (p : Nat))).setCell ⟨W.heap.size + 3,0,none⟩ (.bool true)).cell? ⟨W.heap.size + 3,0,none⟩ = some (.bool true) := World.cell?_setCell_same' _ _ _ (by rw [(hM.set (B := W.heap.size + 2) (i := 0) (v := .int .i64 (p : Nat)) (by omega)).1 0 (by omega)];rfl)
   have a3 : ((w2.setCell ⟨W.heap.size + 2,0,none⟩ (.int .i64 (p : Nat))).setCell ⟨W.heap.size + 3,0,none⟩ (.bool true)).cell? ⟨W.heap.size + 2,0,none⟩ = some (.int .i64 p) :=
    (World.cell?_setCell_other _ _ _ _ (by intro e;injection e with e;omega)).trans (World.cell?_setCell_same' _ _ _ (by rw [hA.1 0 (by omega)];rfl))
   have r3 := (h2.set fA (by omega) (i := 0) (v := .int .i64 (p : Nat))).set (fM.set fA.1) (by omega) (i := 0) (v := .bool true)
   have b3 := (HB2.out.set (b := W.heap.size + 2) (i := 0) (v := .int .i64 (p : Nat)) (by omega) fA.1).set (b := W.heap.size + 3) (i := 0) (v := .bool true) (by omega) fM.1
   generalize (w2.setCell ⟨W.heap.size + 2,0,none⟩ (.int .i64 (p : Nat))).setCell ⟨W.heap.size + 3,0,none⟩ (.bool true) = w4 at *
   have g0 := o3.1 0 (by omega)
   have g1 := o3.1 1 (by omega)
   have g2 := o3.1 2 (by omega)
   have g3 := o3.1 3 (by omega)
   have g4 := o3.1 4 (by omega)
   have g5 := o3.1 5 (by omega)
   have g6 := o3.1 6 (by omega)
   have g7 := o3.1 7 (by omega)
   simp [Leaves,settle,results,Tryz.results27,go_sem,g0,g1,g2,g3,g4,g5,g6,g7,e3,a3,m3]
   exact ⟨rfl,r3,b3⟩
  | err c =>
   go_wp2_with fail
   refine leaves_cons (f := 47) (args := #[.pointer (some ⟨W.heap.size + 2,0,none⟩),.pointer (some ⟨W.heap.size + 3,0,none⟩),.pointer (some ⟨W.heap.size + 1,0,none⟩)]) (by simp) (by simp [go_sem]) ?_
   refine (walk_recovers.err (W.heap.size + 2) (W.heap.size + 3) (W.heap.size + 1) c [] _ _ (hE.1 0 (by omega)) (hE.2 0)).mono ?_
   rintro e u' w3 ⟨rfl,rfl,rfl⟩
   have o3 := hO.set (B := W.heap.size + 1) (i := 0) (v := .int .i64 (c : Nat)) (by omega)
   have a3 := (hA.set (B := W.heap.size + 1) (i := 0) (v := .int .i64 (c : Nat)) (by omega)).1 0 (by omega)
   have m3 := (hM.set (B := W.heap.size + 1) (i := 0) (v := .int .i64 (c : Nat)) (by omega)).1 0 (by omega)
   have e3 : (w2.setCell ⟨W.heap.size + 1,0,none⟩ (.int .i64 (c : Nat))).cell? ⟨W.heap.size + 1,0,none⟩ = some (.int .i64 c) := World.cell?_setCell_same' _ _ _ (by rw [hE.1 0 (by omega)];rfl)
   have r3 := h2.set fE (by omega) (i := 0) (v := .int .i64 (c : Nat))
   have b3 := HB2.out.set (b := W.heap.size + 1) (i := 0) (v := .int .i64 (c : Nat)) (by omega) fE.1
   generalize w2.setCell ⟨W.heap.size + 1,0,none⟩ (.int .i64 (c : Nat)) = w4 at *
   have g0 := o3.1 0 (by omega)
   have g1 := o3.1 1 (by omega)
   have g2 := o3.1 2 (by omega)
   have g3 := o3.1 3 (by omega)
   have g4 := o3.1 4 (by omega)
   have g5 := o3.1 5 (by omega)
   have g6 := o3.1 6 (by omega)
   have g7 := o3.1 7 (by omega)
   simp [Leaves,settle,results,Tryz.results27,go_sem,g0,g1,g2,g3,g4,g5,g6,g7,e3,a3,m3]
   exact ⟨rfl,r3,b3⟩
 | val t l =>
  have hc := reads_val HRD.out rfl
  unfold encLW agg8 lineW cellsW at hc
  have HC := Lib.hid hc
  clear HRD hc
  go_wp2_with fail
  refine HC.out.mono ?_
  rintro e w2 ⟨rfl,h2,hb2⟩
  have hO := HCO.out.rb hb2 (by omega) (HF.out _ (Nat.le_refl _))
  have hE := HCE.out.rb hb2 (by omega) (HF.out _ (by omega))
  have hA := HCA.out.rb hb2 (by omega) (HF.out _ (by omega))
  have hM := HCM.out.rb hb2 (by omega) (HF.out _ (by omega))
  have fO := (hb2.keep W.heap.size (by omega) (HF.out _ (by omega))).2
  have fE := (hb2.keep (W.heap.size + 1) (by omega) (HF.out _ (by omega))).2
  have fA := (hb2.keep (W.heap.size + 2) (by omega) (HF.out _ (by omega))).2
  have fM := (hb2.keep (W.heap.size + 3) (by omega) (HF.out _ (by omega))).2
  have HB2 := Lib.hid (HB0.out.trans (hb2.mono (by omega)))
  clear hb2 HC HF HCO HCE HCA HCM
  obtain ⟨w3,hw3⟩ : ∃ w3,putTo w2 W.heap.size (lineW t) 8 = w3 := ⟨_,rfl⟩
  have hO3 : CellsAt w3 W.heap.size 8 (lineW t) := by rw [<- hw3];exact putTo_all hO
  have hE3 : CellsAt w3 (W.heap.size + 1) 1 (fun _ => .int .i64 0) := by rw [<- hw3];exact hE.put (by omega)
  have hA3 : CellsAt w3 (W.heap.size + 2) 1 (fun _ => .int .i64 0) := by rw [<- hw3];exact hA.put (by omega)
  have hM3 : CellsAt w3 (W.heap.size + 3) 1 (fun _ => .bool false) := by rw [<- hw3];exact hM.put (by omega)
  have h3 : RdAt R FA nf cf fed l w3 := by rw [<- hw3];exact h2.putTo fO (by omega) 8
  have fE3 : FreeAt R w3 (W.heap.size + 1) := by rw [<- hw3];exact fE.putTo fO.1 8
  have fA3 : FreeAt R w3 (W.heap.size + 2) := by rw [<- hw3];exact fA.putTo fO.1 8
  have fM3 : FreeAt R w3 (W.heap.size + 3) := by rw [<- hw3];exact fM.putTo fO.1 8
  have HB3 : Hid (RB R W.heap.size W w3) := by rw [Hid,<- hw3];exact HB2.out.putTo (Nat.le_refl _) fO.1 8
  have z0 := hO.1 0 (by omega)
  have z1 := hO.1 1 (by omega)
  have z2 := hO.1 2 (by omega)
  have z3 := hO.1 3 (by omega)
  have z4 := hO.1 4 (by omega)
  have z5 := hO.1 5 (by omega)
  have z6 := hO.1 6 (by omega)
  have z7 := hO.1 7 (by omega)
  have y0 := hO.2 0
  have y1 := hO.2 1
  have y2 := hO.2 2
  have y3 := hO.2 3
  have y4 := hO.2 4
  have y5 := hO.2 5
  have y6 := hO.2 6
  have y7 := hO.2 7
  have e0 := hE3.1 0 (by omega)
  have ef := hE3.2 0
  have a0 : w3.cell? ⟨W.heap.size + 1 + 1,0,none⟩ = some (.int .i64 0) := hA3.1 0 (by omega)
  have af : w3.frozen? ⟨W.heap.size + 1 + 1,0,none⟩ = false := hA3.2 0
  have m0 : w3.cell? ⟨W.heap.size + 1 + 1 + 1,0,none⟩ = some (.bool false) := hM3.1 0 (by omega)
  have mf : w3.frozen? ⟨W.heap.size + 1 + 1 + 1,0,none⟩ = false := hM3.2 0
  unfold putTo putTo putTo putTo putTo putTo putTo putTo putTo lineW cellsW at hw3
  clear hO hE hA hM
  go_wp2_with fail
  obtain ⟨w4,hw4⟩ : ∃ w4,(((w3.setCell ⟨W.heap.size + 1,0,none⟩ (.int .i64 0)).setCell ⟨W.heap.size + 1 + 1,0,none⟩ (.int .i64 0)).setCell ⟨W.heap.size + 1 + 1 + 1,0,none⟩ (.bool false)) = w4 := ⟨_,rfl⟩
  have o4 : CellsAt w4 W.heap.size 8 (lineW t) := by rw [<- hw4];exact ((hO3.set (by omega)).set (by omega)).set (by omega)
  have e4 : w4.cell? ⟨W.heap.size + 1,0,none⟩ = some (.int .i64 0) := by
   rw [<- hw4,World.cell?_setCell_other _ _ _ _ (by intro e;injection e with e;omega),World.cell?_setCell_other _ _ _ _ (by intro e;injection e with e;omega)]
   exact World.cell?_setCell_same' _ _ _ (by rw [e0];rfl)
  have a4 : w4.cell? ⟨W.heap.size + 1 + 1,0,none⟩ = some (.int .i64 0) := by
   rw [<- hw4,World.cell?_setCell_other _ _ _ _ (by intro e;injection e with e;omega)]
   exact World.cell?_setCell_same' _ _ _ (by rw [World.cell?_setCell_other _ _ _ _ (by intro e;injection e with e;omega),a0];rfl)
  have m4 : w4.cell? ⟨W.heap.size + 1 + 1 + 1,0,none⟩ = some (.bool false) := by
   rw [<- hw4]
   exact World.cell?_setCell_same' _ _ _ (by rw [World.cell?_setCell_other _ _ _ _ (by intro e;injection e with e;omega),World.cell?_setCell_other _ _ _ _ (by intro e;injection e with e;omega),m0];rfl)
  have r4 : RdAt R FA nf cf fed l w4 := by
   rw [<- hw4]
   exact ((h3.set fE3 (by omega)).set (fA3.set fE3.1) (by show R <= W.heap.size + 2;omega)).set ((fM3.set fE3.1).set fA3.1) (by show R <= W.heap.size + 3;omega)
  have b4 : RB R W.heap.size W w4 := by
   rw [<- hw4]
   exact ((HB3.out.set (by omega) fE3.1).set (by omega) fA3.1).set (by omega) fM3.1
  rw [hw4]
  clear hw4 hw3 z0 z1 z2 z3 z4 z5 z6 z7 y0 y1 y2 y3 y4 y5 y6 y7
  refine leaves_cons (f := 47) (args := #[.pointer (some ⟨W.heap.size + 1 + 1,0,none⟩),.pointer (some ⟨W.heap.size + 1 + 1 + 1,0,none⟩),.pointer (some ⟨W.heap.size + 1,0,none⟩)]) (by simp) (by simp [go_sem]) ?_
  refine (walk_recovers.idle _ _ _ _).mono ?_
  rintro e u' w5 ⟨rfl,rfl,rfl⟩
  have g0 := o4.1 0 (by omega)
  have g1 := o4.1 1 (by omega)
  have g2 := o4.1 2 (by omega)
  have g3 := o4.1 3 (by omega)
  have g4 := o4.1 4 (by omega)
  have g5 := o4.1 5 (by omega)
  have g6 := o4.1 6 (by omega)
  have g7 := o4.1 7 (by omega)
  simp [Leaves,settle,results,Tryz.results27,go_sem,g0,g1,g2,g3,g4,g5,g6,g7,e4,a4,m4]
  exact ⟨rfl,r4,b4⟩
end
section
open Go.RowKit
section
variable (W : World) (c0 c1 c2 : Array Value) (T0 T1 T2 : TypeId)
def lay3 : World := ((W.alloc (.cells c0 T0)).alloc (.cells c1 T1)).alloc (.cells c2 T2)
end
def encLn1 (t : Nat × Nat × Nat × Nat) : Value := .int .i64 t.1
variable {R : Nat} {FA : Option Addr} {nf cf : Nat} {fed ats : List Nat}
end
section
open Go.RowKit
def NamesAt (R Rb Nb : Nat) (nm : List (List UInt8)) (W : World) : Prop :=
 W.cell? ⟨Rb,0,none⟩ = some (.pointer (some ⟨R,0,none⟩)) ∧ ∃ NA cn,W.cell? ⟨Nb,0,none⟩ = some (.slice NA nm.length cn) ∧ nm.length <= cn ∧ nm.length <= 100 ∧ (∀ x ∈ nm,rightB x = true) ∧ RowAt W NA (nm.map fun x => .string (ofBytes x)) ∧ (0 < nm.length -> ∀ b off,NA = some ⟨b,off,none⟩ -> b < R)
variable {R : Nat} {FA : Option Addr} {nf cf : Nat} {fed : List Nat}
set_option maxRecDepth 100000 in
set_option maxHeartbeats 4000000 in
theorem run1_any (Rb Nb : Nat) (nm : List (List UInt8)) (W : World) (hn : NamesAt R Rb Nb nm W) (hnf : nf <= 20000) (hx64 : ∀ x ∈ fed,x < 18446744073709551616) (h : RdAt R FA nf cf fed [] W) :
  Calls Tryz.prog 28 #[.pointer (some ⟨Rb,0,none⟩),.pointer (some ⟨Nb,0,none⟩)] W (ReadsTo R FA nf cf fed W encLW (walkedP fed nm)) := by
 obtain ⟨c1,NA,cn,c2,hcn,h100,hright,hrow,hNA⟩ := hn
 obtain ⟨W1,hW1⟩ : ∃ W1,W.alloc (.cells #[.bool false,.int .i64 0,.int .i64 0,.int .i64 0,.int .i64 0,.int .i64 0,.int .i64 0,.int .i64 0] 48) = W1 := ⟨_,rfl⟩
 have hb1 : Below W.heap.size W W1 := by rw [<- hW1];exact (Below.refl _ _).alloc (Nat.le_refl _) _
 have hs1 : W1.heap.size = W.heap.size + 1 := by rw [<- hW1];simp
 have hR1 := h.below hb1
 have hFO := h.free_new hb1 (Nat.le_refl _)
 have d1 := (hb1.cell (p := ⟨Rb,0,none⟩) (World.block_lt_of_cell? W ⟨Rb,0,none⟩ c1)).trans c1
 have d2 := (hb1.cell (p := ⟨Nb,0,none⟩) (World.block_lt_of_cell? W ⟨Nb,0,none⟩ c2)).trans c2
 have hwk := walked_any nm NA nm.length cn W1 rfl h100 hcn hright (hrow.below hb1) hNA hnf hx64 hR1
 have hCO : CellsAt W1 W.heap.size 8 zeroW := ⟨fun i hi => by
  rw [<- hW1]
  match i,hi with
  | 0,_ => exact cell_new W _ _ 0 _ rfl
  | 1,_ => exact cell_new W _ _ 1 _ rfl
  | 2,_ => exact cell_new W _ _ 2 _ rfl
  | 3,_ => exact cell_new W _ _ 3 _ rfl
  | 4,_ => exact cell_new W _ _ 4 _ rfl
  | 5,_ => exact cell_new W _ _ 5 _ rfl
  | 6,_ => exact cell_new W _ _ 6 _ rfl
  | 7,_ => exact cell_new W _ _ 7 _ rfl,fun i => by rw [<- hW1];exact (World.frozen?_of_block (w := W.alloc (.cells #[.bool false,.int .i64 0,.int .i64 0,.int .i64 0,.int .i64 0,.int .i64 0,.int .i64 0,.int .i64 0] 48)) rfl).trans (by simp)⟩
 have HB1 := Lib.hid (RB.of_below hb1 h.lt)
 have hRl := h.lt
 generalize nm.length = nn at *
 clear c1 c2 hrow hNA hright h hb1 hR1
 cases hr : walkedP fed nm with
 | stop o l =>
  have HC := Lib.hid (reads_stop hwk hr)
  clear hwk
  go_enter Tryz.func28,Tryz.ntmps28
  go_wp2_with fail
  refine HC.out.mono ?_
  rintro e w2 ⟨rfl,h2,hb2⟩
  go_wp2_with fail
  exact ⟨rfl,(endOf_stop _ _ _).symm,h2,HB1.out.trans (hb2.mono (by omega))⟩
 | val t l =>
  have hwv := reads_val hwk hr
  unfold encWk encNd encN at hwv
  have HC := Lib.hid hwv
  clear hwk hwv
  go_enter Tryz.func28,Tryz.ntmps28
  go_wp2_with fail
  refine HC.out.mono ?_
  rintro e w2 ⟨rfl,h2,hb2⟩
  have hO2 := hCO.rb hb2 (by omega) hFO
  have fO2 := (hb2.keep W.heap.size (by omega) hFO).2
  have HB2 := Lib.hid (HB1.out.trans (hb2.mono (by omega)))
  have hs2 := hb2.size
  clear hb2 hCO hFO HC
  obtain ⟨w3,hw3⟩ : ∃ w3,w2.alloc (.cells #[.int .i64 t.2.1,.int .i64 t.2.2.1,.int .i64 t.2.2.2] 46) = w3 := ⟨_,rfl⟩
  have hb3 : Below w2.heap.size w2 w3 := by rw [<- hw3];exact (Below.refl _ _).alloc (Nat.le_refl _) _
  have n0 : w3.cell? ⟨w2.heap.size,0,none⟩ = some (.int .i64 t.2.1) := by rw [<- hw3];exact cell_new w2 _ _ 0 _ rfl
  have n1 : w3.cell? ⟨w2.heap.size,1,none⟩ = some (.int .i64 t.2.2.1) := by rw [<- hw3];exact cell_new w2 _ _ 1 _ rfl
  have n2 : w3.cell? ⟨w2.heap.size,2,none⟩ = some (.int .i64 t.2.2.2) := by rw [<- hw3];exact cell_new w2 _ _ 2 _ rfl
  have hO3 := hO2.below hb3 (by omega)
  have fO3 := freeAt_below hb3 h2.lt fO2
  have h3 := h2.below hb3
  have HB3 := Lib.hid (HB2.out.trans ((RB.of_below hb3 h2.lt).mono (by omega)))
  obtain ⟨w4,hw4⟩ : ∃ w4,putTo w3 W.heap.size (lineW t) 8 = w4 := ⟨_,rfl⟩
  have hO4 : CellsAt w4 W.heap.size 8 (lineW t) := by rw [<- hw4];exact putTo_all hO3
  have h4 : RdAt R FA nf cf fed l w4 := by rw [<- hw4];exact h3.putTo fO3 (by omega) 8
  have HB4 : Hid (RB R W.heap.size W w4) := by rw [Hid,<- hw4];exact HB3.out.putTo (Nat.le_refl _) fO3.1 8
  have z0 := hO3.1 0 (by omega)
  have z1 := hO3.1 1 (by omega)
  have z2 := hO3.1 2 (by omega)
  have z3 := hO3.1 3 (by omega)
  have z4 := hO3.1 4 (by omega)
  have z5 := hO3.1 5 (by omega)
  have z6 := hO3.1 6 (by omega)
  have z7 := hO3.1 7 (by omega)
  have y0 := hO3.2 0
  have y1 := hO3.2 1
  have y2 := hO3.2 2
  have y3 := hO3.2 3
  have y4 := hO3.2 4
  have y5 := hO3.2 5
  have y6 := hO3.2 6
  have y7 := hO3.2 7
  have HO4 := Lib.hid hO4
  have H4 := Lib.hid h4
  unfold putTo putTo putTo putTo putTo putTo putTo putTo putTo lineW cellsW at hw4
  clear hO3 hO2 fO3 fO2 h3 h2 hO4 h4 hb3
  go_wp2_with fail
  have g0 := HO4.out.1 0 (by omega)
  have g1 := HO4.out.1 1 (by omega)
  have g2 := HO4.out.1 2 (by omega)
  have g3 := HO4.out.1 3 (by omega)
  have g4 := HO4.out.1 4 (by omega)
  have g5 := HO4.out.1 5 (by omega)
  have g6 := HO4.out.1 6 (by omega)
  have g7 := HO4.out.1 7 (by omega)
  refine bodyPost_ret (v := encLW t) (by simp [results,Tryz.results28,go_sem,g0,g1,g2,g3,g4,g5,g6,g7,encLW,agg8]) rfl ?_
  exact ⟨rfl,H4.out,HB4.out⟩
end
end Go.Proofs.YtdpooagnbmpinaaGreatDoor
