import Derived.Test.YtdpooagnbmpinaaGreatDoorZK7
namespace Go.Proofs.YtdpooagnbmpinaaGreatDoor
section
open Go.RowKit
section
variable {P : Program} {f : FuncId}
def WpB (f : FuncId) (P : Program) (c : Code) (Q : Exit -> Act -> World -> Prop) (a : Act) (w : World) : Prop :=
 ∀ (b : Frame) (k : List Item) (cs : List Frame),b.roundOf = none -> b.fn = f ->
  ∃ e a' w',Q e a' w' ∧ ArrivesIn (Machine.fenced P Fence.wide) P (lone (b.atR a (.code c :: k)) cs w) b k cs e a' w'
variable {c x y : Code} {Q : Exit -> Act -> World -> Prop} {a : Act} {w : World}
theorem wpB_of_wp (h : c.wp P Q a w) : WpB f P c Q a w := fun b k cs hro _ => (wpIn_wide (n := 0)).2 h b k cs hro trivial (room_wide _)
theorem wpB_seq (h : WpB f P x (Exit.then (WpB f P y Q) Q) a w) : WpB f P (Code.seq x y) Q a w := by
 intro b k cs hro hb
 have h0 : (lone (b.atR a (.code (.seq x y) :: k)) cs w).fenced P Fence.wide := fenced_wide P _
 obtain ⟨e,a₁,w₁,hq,harr⟩ := h b (.code y :: k) cs hro hb
 cases e with
 | normal =>
  obtain ⟨e₂,a₂,w₂,hq₂,harr₂⟩ := hq b k cs hro hb
  exact ⟨e₂,a₂,w₂,hq₂,.of_steps (.head h0 stepR_seq harr) harr₂⟩
 | exit id => exact ⟨_,a₁,w₁,hq,.of_steps (.one h0 stepR_seq) (.pass (x := .code y) rfl (fun _ _ => .inl (by simp)) harr)⟩
 | goto l => exact ⟨_,a₁,w₁,hq,.of_steps (.one h0 stepR_seq) (.pass (x := .code y) rfl (fun _ _ => .inl (by simp)) harr)⟩
 | ret => exact ⟨_,a₁,w₁,hq,.of_steps (.one h0 stepR_seq) (.pass (x := .code y) rfl (fun _ _ => .inl (by simp)) harr)⟩
 | panic ch => exact ⟨_,a₁,w₁,hq,.of_steps (.one h0 stepR_seq) (.pass (x := .code y) rfl (fun _ _ => .inl (by simp)) harr)⟩
 | outgrown => exact ⟨_,a₁,w₁,hq,.of_steps (.one h0 stepR_seq) (.pass (x := .code y) rfl (fun _ _ => .inl (by simp)) harr)⟩
theorem wpB_seq_k (h : ∀ K : Act -> World -> Prop,(∀ a w,WpB f P y Q a w -> K a w) -> x.wp P (Exit.then K Q) a w) : WpB f P (Code.seq x y) Q a w :=
 wpB_seq (wpB_of_wp (h _ fun _ _ h => h))
theorem wpB_block {id : Nat} (h : WpB f P c (Exit.inBlock id Q) a w) : WpB f P (Code.block id c) Q a w := by
 intro b k cs hro hb
 have h0 : (lone (b.atR a (.code (.block id c) :: k)) cs w).fenced P Fence.wide := fenced_wide P _
 obtain ⟨e,a₁,w₁,hq,harr⟩ := h b (.inBlock id :: k) cs hro hb
 cases e with
 | normal => exact ⟨.normal,a₁,w₁,hq,.head h0 stepR_block (StepsIn.trans harr (.one (fenced_wide P _) stepR_inBlock))⟩
 | exit id' =>
  by_cases hid : id' = id
  ·simp only [Exit.inBlock,hid,if_true] at hq
   exact ⟨.normal,a₁,w₁,hq,.head h0 stepR_block (harr.1 k (by simp [exitTo,hid]))⟩
  ·simp only [Exit.inBlock,hid,if_false] at hq
   have this : (id == id') = false := by simp;exact fun h => hid h.symm
   have hx : exitTo id' (.inBlock id :: k) = exitTo id' k := by simp [exitTo,this]
   exact ⟨.exit id',a₁,w₁,hq,fun k' hk => .head h0 stepR_block (harr.1 k' (by rw [hx];exact hk)),
    fun hr' hk => let ⟨k₁,h1,h2⟩ := harr.2 hr' (by rw [hx];exact hk);⟨k₁,h1,.head h0 stepR_block h2⟩⟩
 | goto l =>
  have hx : gotoIn l (.inBlock id :: k) = gotoIn l k := by simp [gotoIn]
  exact ⟨.goto l,a₁,w₁,hq,fun k' hk => .head h0 stepR_block (harr.1 k' (by rw [hx];exact hk)),
   fun hr' hk => let ⟨k₁,h1,h2⟩ := harr.2 hr' (by rw [hx];exact hk);⟨k₁,h1,.head h0 stepR_block h2⟩⟩
 | ret => exact ⟨_,a₁,w₁,hq,.of_steps (.one h0 stepR_block) ⟨fun h => harr.1 h,fun h => harr.2 h⟩⟩
 | panic ch => exact ⟨_,a₁,w₁,hq,.of_steps (.one h0 stepR_block) harr⟩
 | outgrown => exact ⟨_,a₁,w₁,hq,.of_steps (.one h0 stepR_block) harr⟩
theorem wpB_scope (h : WpB f P c (Exit.noGoto Q) a w) : WpB f P (Code.scope c) Q a w := by
 intro b k cs hro hb
 have h0 : (lone (b.atR a (.code (.scope c) :: k)) cs w).fenced P Fence.wide := fenced_wide P _
 have hs : step P (lone (b.atR a (.code (.scope c) :: k)) cs w) = .next (lone (b.atR a (.code c :: .inScope c :: k)) cs w) :=
  step_lone_go (by simp [stepG,stepG.exec,Frame.atR])
 have hs2 : ∀ a w,step P (lone (b.atR a (.inScope c :: k)) cs w) = .next (lone (b.atR a k) cs w) := fun a w =>
  step_lone_go (by simp [stepG,stepG.exec,Frame.atR])
 obtain ⟨e,a₁,w₁,hq,harr⟩ := h b (.inScope c :: k) cs hro hb
 cases e with
 | normal => exact ⟨.normal,a₁,w₁,hq,.head h0 hs (StepsIn.trans harr (.one (fenced_wide P _) (hs2 _ _)))⟩
 | exit id =>
  have hx : exitTo id (.inScope c :: k) = exitTo id k := by simp [exitTo]
  exact ⟨.exit id,a₁,w₁,hq,fun k' hk => .head h0 hs (harr.1 k' (by rw [hx];exact hk)),
   fun hr' hk => let ⟨k₁,h1,h2⟩ := harr.2 hr' (by rw [hx];exact hk);⟨k₁,h1,.head h0 hs h2⟩⟩
 | goto l => exact hq.elim
 | ret => exact ⟨_,a₁,w₁,hq,.of_steps (.one h0 hs) ⟨fun h => harr.1 h,fun h => harr.2 h⟩⟩
 | panic ch => exact ⟨_,a₁,w₁,hq,.of_steps (.one h0 hs) harr⟩
 | outgrown => exact ⟨_,a₁,w₁,hq,.of_steps (.one h0 hs) harr⟩
theorem calls_of_wpB {fn : Func} {args : Array Value} {R : Ending -> World -> Prop} (hf : P.funcs[f]? = some fn) (hb : fn.body = some c)
  (h : WpB f P c (bodyPostM Fence.wide 9 P fn R) { tmps := args ++ Array.replicate (fn.ntmps - args.size) undef,defers := [] } w) : Calls P f args w R := by
 refine callsIn_wide.1 (show CallsIn Fence.wide 9 P f args w R from ⟨trivial,fun cs hr => ?_⟩)
 let b : Frame := { (default : Frame) with fn := f,kind := .normal,roundOf := none }
 have henter : Frame.enter P f args .normal = b.atR { tmps := args ++ Array.replicate (fn.ntmps - args.size) undef,defers := [] } [.code c] := by
  simp [Frame.enter,Frame.atR,hf,hb,b]
 obtain ⟨e,a',w',hq,harr⟩ := h b [] cs rfl rfl
 rw [<- henter] at harr
 cases e with
 | normal =>
  obtain ⟨e',w'',fr',hR,hs,hfn,hl⟩ := leaves_stepsInM a'.defers .returning w' { b.atR a' [] with mode := .returning } cs rfl rfl rfl hf rfl trivial hr hq
  exact ⟨e',w'',fr',hR,ComesIn.of_steps (StepsIn.trans harr (.one (fenced_wide P _) (stepR_end rfl))) hs,hfn,hl⟩
 | ret =>
  obtain ⟨todo,hs₀⟩ := harr.1 rfl
  obtain ⟨e',w'',fr',hR,hs,hfn,hl⟩ := leaves_stepsInM a'.defers .returning w' { b.atR a' todo with mode := .returning } cs rfl rfl rfl hf rfl trivial hr hq
  exact ⟨e',w'',fr',hR,ComesIn.of_steps hs₀ hs,hfn,hl⟩
 | panic chain =>
  obtain ⟨todo,hs₀⟩ := harr
  obtain ⟨e',w'',fr',hR,hs,hfn,hl⟩ := leaves_stepsInM a'.defers (.panicking chain) w' { b.atR a' todo with mode := .panicking chain } cs rfl rfl rfl hf rfl trivial hr hq
  exact ⟨e',w'',fr',hR,ComesIn.of_steps hs₀ hs,hfn,hl⟩
 | exit id => exact hq.elim
 | goto l => exact hq.elim
 | outgrown => exact ⟨.outgrown,w',b,hq,harr.resolve_left (by simp [b]),rfl,trivial⟩
def recOf (f : FuncId) (tmps : Array Value) (ps : Array Tmp) (assign body : Code) (D : Nat) (st : LoopState) (pe : Option Code) : Loop := { state := st,pending := pe,fn := f,tmps := tmps,params := ps,assign := assign,body := body,defers := D }
def behindB (f : FuncId) (P : Program) (l : Nat) (Q : Exit -> Act -> World -> Prop) (a' : Act) : Ending -> World -> Prop
 | .returned _,w₃ => ∃ jump w₄,(Instr.endLoop l).run P w₃ = .ok jump w₄ ∧ (match jump with | none => Q .normal a' w₄ | some c => WpB f P c Q a' w₄)
 | .panicked chain,w₃ => Q (.panic chain) a' w₃
 | .outgrown,_ => LetsOut Q
theorem wpB_rangeFunc {g : Operand} {ps : Array Tmp} {assign body : Code} {gf : Nat} {lb : Array Value} (hg : a.eval g = .func (.func gf) #[] lb) (eg : ∀ args w,(callFunc gf args).run P w = .ok (.enter gf args) w)
  (h : CallsIn Fence.wide 8 P gf (#[.func (.yield (w.heap.size + 1)) #[] #[]] ++ lb) ((w.alloc (.deferred (some []))).alloc (.loop (recOf f a.tmps ps assign body w.heap.size .ready none)))
   (behindB f P (w.heap.size + 1) Q { a with defers := { target := .collected w.heap.size,args := #[] } :: a.defers })) :
  WpB f P (Code.rangeFunc g ps assign body) Q a w := by
 intro b k cs hro hb
 obtain ⟨W1,hW1⟩ : ∃ W1,(w.alloc (.deferred (some []))).alloc (.loop (recOf f a.tmps ps assign body w.heap.size .ready none)) = W1 := ⟨_,rfl⟩
 rw [hW1] at h
 have he : (Instr.enterLoop b.fn a.tmps ps assign body b.roundOf).run P w = .ok (w.heap.size + 1,[{ target := .collected w.heap.size,args := #[] }]) W1 := by
  rw [hro,hb,<- hW1];exact run_enterLoop_outer _ _ _ _ _
 have hres : (resolve a.eval (rangeCall g (w.heap.size + 1)) 0).run P W1 = .ok { target := .fn (.func gf) lb,args := #[.func (.yield (w.heap.size + 1)) #[] #[]] } W1 := by
  simp only [resolve,hg]
  simp [go_sem]
 have hinv : (invoke (.fn (.func gf) lb) #[.func (.yield (w.heap.size + 1)) #[] #[]]).run P W1 = .ok (.enter gf (#[.func (.yield (w.heap.size + 1)) #[] #[]] ++ lb)) W1 := by
  simp [invoke,go_sem,eg]
 have henter := stepR_rangeFunc (P := P) (b := b) (a := a) (k := k) (cs := cs) (w := w) he hres hinv
 have h0 := fenced_wide P (lone (b.atR a (.code (.rangeFunc g ps assign body) :: k)) cs w)
 obtain ⟨e,w₃,fr,hR,hsteps,hfn,hleave⟩ := h.2 (b.atR { a with defers := [{ target := .collected w.heap.size,args := #[] }] ++ a.defers } (.inRangeFunc (w.heap.size + 1) :: k) :: cs) (room_wide _)
 cases e with
 | outgrown =>
  obtain ⟨a₀,w₀,hq⟩ := hR
  exact ⟨.outgrown,a₀,w₀,hq,.inr (Outgrown.of_steps (.one henter) hsteps)⟩
 | returned v =>
  obtain ⟨jump,w₄,hend,hj⟩ := hR
  have sback : StepsIn (Machine.fenced P Fence.wide) P (lone (b.atR a (.code (.rangeFunc g ps assign body) :: k)) cs w) (lone (b.atR { a with defers := [{ target := .collected w.heap.size,args := #[] }] ++ a.defers } ((jump.map Item.code).toList ++ k)) cs w₄) := by
   refine .head h0 henter (StepsIn.trans hsteps (.head (fenced_wide P _) ?_ (.one (fenced_wide P _) (stepR_endRangeFunc hend))))
   rw [<- finish_atR_inRangeFunc (w.heap.size + 1) v];exact step_leave_returned hleave
  cases jump with
  | none => exact ⟨.normal,_,w₄,hj,sback⟩
  | some c =>
   obtain ⟨e',a'',w₅,hq,harr⟩ := hj b k cs hro hb
   exact ⟨e',a'',w₅,hq,.of_steps sback harr⟩
 | panicked chain =>
  refine ⟨.panic chain,_,w₃,hR,.inRangeFunc (w.heap.size + 1) :: k,.head h0 henter (StepsIn.trans hsteps (.one (fenced_wide P _) ?_))⟩
  rw [<- Frame.raise_atR];exact step_leave_panicked hleave
def roundPostP (P : Program) (l : Nat) (R : Ending -> World -> Prop) : Exit -> Act -> World -> Prop
 | .panic ch,a,w => a.defers = [] ∧ R (.panicked ch) w
 | e,a,w => roundPost P l R e a w
theorem roundP {l : Nat} {fn : Func} {tmps : Array Value} {assign body : Code} {R : Ending -> World -> Prop} (hf : P.funcs[f]? = some fn)
  (h : assign.wpIn (Fence.wide.inRound l) 7 P (Exit.then (fun a₁ w₁ => ∃ w₂,(Instr.beginRound l).run P w₁ = .ok () w₂ ∧ body.wpIn (Fence.wide.inRound l) 7 P (roundPostP P l R) a₁ w₂) (fun _ _ _ => False))
   { tmps := tmps,defers := [] } w) :
  RoundIn Fence.wide 7 P l f tmps assign body w R := by
 refine ⟨trivial,fun c cs hr => ?_⟩
 let b : Frame := { (default : Frame) with fn := f,kind := .normal,roundOf := some l }
 have hb0 : Frame.round l f tmps assign body .normal = b.atR { tmps := tmps,defers := [] } [.code assign,.beginRound,.code body] := by
  simp [Frame.round,Frame.atR,b]
 have hr' : (Fence.wide.inRound l).room ((c :: cs).length + 1 + 7) := hr
 have hfw : ∀ m,Machine.fenced P (Fence.wide.inRound l) m := fun m => fenced_wide P m
 obtain ⟨e,a₁,w₁,hq,harr⟩ := h b [.beginRound,.code body] (c :: cs) rfl trivial hr'
 rw [<- hb0] at harr
 cases e with
 | normal =>
  obtain ⟨w₂,hbr,hbody⟩ := hq
  have s1 : StepsIn (Machine.fenced P (Fence.wide.inRound l)) P (lone (b.atR a₁ [.beginRound,.code body]) (c :: cs) w₁) (lone (b.atR a₁ [.code body]) (c :: cs) w₂) :=
   .one (hfw _) (stepR_beginRound rfl hbr)
  obtain ⟨e₂,a₂,w₃,hq₂,harr₂⟩ := hbody b [] (c :: cs) rfl trivial hr'
  cases e₂ with
  | normal =>
   obtain ⟨v,w₄,hend,hR⟩ := hq₂
   exact ⟨.returned v,w₄,hR,(StepsIn.trans harr s1).trans (StepsIn.trans harr₂ (.one (hfw _) (stepR_round_end rfl rfl hend)))⟩
  | ret =>
   obtain ⟨v,w₄,hend,hR⟩ := hq₂
   obtain ⟨k₁,hs⟩ := harr₂.2 rfl
   exact ⟨.returned v,w₄,hR,(StepsIn.trans harr s1).trans (StepsIn.trans hs (.one (hfw _) (stepR_round_ret rfl rfl hend)))⟩
  | exit id =>
   obtain ⟨v,w₄,hend,hR⟩ := hq₂
   obtain ⟨k₁,hk,hs⟩ := harr₂.2 rfl rfl
   exact ⟨.returned v,w₄,hR,(StepsIn.trans harr s1).trans (StepsIn.trans hs (.one (hfw _) (stepR_round_exit rfl rfl hk hend)))⟩
  | goto t =>
   obtain ⟨v,w₄,hend,hR⟩ := hq₂
   obtain ⟨k₁,hk,hs⟩ := harr₂.2 rfl rfl
   exact ⟨.returned v,w₄,hR,(StepsIn.trans harr s1).trans (StepsIn.trans hs (.one (hfw _) (stepR_round_goto rfl rfl hk hend)))⟩
  | panic chain =>
   obtain ⟨hd,hR⟩ := hq₂
   obtain ⟨todo,hs⟩ := harr₂
   have hl : ({ b.atR a₂ todo with mode := .panicking chain } : Frame).leaving P w₃ (.panicked chain) := ⟨rfl,hd,fn,hf⟩
   exact ⟨.panicked chain,w₃,hR,(StepsIn.trans harr s1).trans (StepsIn.trans hs (.one (hfw _) (step_leave_panicked hl)))⟩
  | outgrown => exact hq₂.elim
 | exit id => exact hq.elim
 | goto t => exact hq.elim
 | ret => exact hq.elim
 | panic chain => exact hq.elim
 | outgrown => exact hq.elim
def bodyP (l : Nat) (o : Obj) (N : World -> Prop) (X : Code -> World -> Prop) (Pn : List PanicEntry -> World -> Prop) : Exit -> Act -> World -> Prop
 | .normal,_,W => W.heap[l]? = some o ∧ N W
 | .ret,_,W => W.heap[l]? = some o ∧ X .ret W
 | .exit id,_,W => W.heap[l]? = some o ∧ X (.exit id) W
 | .goto t,_,W => W.heap[l]? = some o ∧ X (.goto t) W
 | .panic ch,a,W => a.defers = [] ∧ Pn ch W
 | .outgrown,_,_ => False
theorem yieldP {l D : Nat} {fn : Func} (hf : P.funcs[f]? = some fn) {tmps args : Array Value} {ps : Array Tmp} {assign body : Code} {W : World} (hps : args.size = ps.size)
  (hl : W.heap[l]? = some (.loop (recOf f tmps ps assign body D .ready none))) (N : World -> Prop) (X : Code -> World -> Prop) (Pn : List PanicEntry -> World -> Prop) (A : Act)
  (hassign : ∀ K : Act -> World -> Prop,K A W -> assign.wpIn (Fence.wide.inRound l) 7 P (Exit.then K (fun _ _ _ => False)) { tmps := (ps.zip args).foldl (fun t (p,v) => t.setIfInBounds p v) tmps,defers := [] } W)
  (hbody : body.wpIn (Fence.wide.inRound l) 7 P (bodyP l (.loop (recOf f tmps ps assign body D .busy none)) N X Pn) A (W.putObj l (.loop (recOf f tmps ps assign body D .busy none)))) :
  YieldAt Fence.wide 7 P l args W (fun e W' => (e = .returned (.bool true) ∧ ∃ W3,N W3 ∧ W3.heap[l]? = some (.loop (recOf f tmps ps assign body D .busy none)) ∧ W' = W3.putObj l (.loop (recOf f tmps ps assign body D .ready none))) ∨
   (e = .returned (.bool false) ∧ ∃ c W3,X c W3 ∧ W3.heap[l]? = some (.loop (recOf f tmps ps assign body D .busy none)) ∧ W' = W3.putObj l (.loop (recOf f tmps ps assign body D .done (some c)))) ∨
   ∃ ch,e = .panicked ch ∧ Pn ch W') := by
 have hy := run_yield (P := P) (args := args) hl hps
 refine ⟨f,_,assign,body,hy,roundP hf (hassign _ ⟨_,run_beginRound hl rfl,wpIn_mono hbody ?_⟩)⟩
 have fin : ∀ (jump : Option Code) (W3 : World),W3.heap[l]? = some (.loop (recOf f tmps ps assign body D .busy none)) ->
   (Instr.endRound l jump).run P W3 = .ok (.bool jump.isNone) (W3.putObj l (.loop (recOf f tmps ps assign body D (if jump.isNone then .ready else .done) jump))) := fun jump W3 h3 => run_endRound (P := P) jump h3
 rintro e a3 W3 hp
 cases e with
 | normal => exact ⟨_,_,fin none W3 hp.1,.inl ⟨rfl,W3,hp.2,hp.1,rfl⟩⟩
 | ret => exact ⟨_,_,fin (some .ret) W3 hp.1,.inr (.inl ⟨rfl,_,W3,hp.2,hp.1,rfl⟩)⟩
 | exit id => exact ⟨_,_,fin (some (.exit id)) W3 hp.1,.inr (.inl ⟨rfl,_,W3,hp.2,hp.1,rfl⟩)⟩
 | goto t => exact ⟨_,_,fin (some (.goto t)) W3 hp.1,.inr (.inl ⟨rfl,_,W3,hp.2,hp.1,rfl⟩)⟩
 | panic ch => exact ⟨hp.1,.inr (.inr ⟨ch,rfl,hp.2⟩)⟩
 | outgrown => exact hp.elim
end
end
end Go.Proofs.YtdpooagnbmpinaaGreatDoor
