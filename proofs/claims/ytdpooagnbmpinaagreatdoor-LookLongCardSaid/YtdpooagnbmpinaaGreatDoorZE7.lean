import Derived.Test.YtdpooagnbmpinaaGreatDoorZEH
namespace Go.Proofs.YtdpooagnbmpinaaGreatDoor
section
open Go.RowKit
def KpTwo (n : Nat) (V V' : World) : Prop := V.heap.size <= V'.heap.size ∧ ∀ b,n <= b -> b < n + 2 -> V'.heap[b]? = V.heap[b]?
theorem wpIn_skip {F : Fence} {n : Nat} {P : Program} {K : Act -> World -> Prop} {Q : Exit -> Act -> World -> Prop} {a : Act} {w : World} (h : K a w) : (Code.skip).wpIn F n P (Exit.then K Q) a w := by
 gi_wp2
 exact h
variable {R : Nat} {FA : Option Addr} {nf cf : Nat} {fed ats : List Nat}
set_option maxHeartbeats 1000000 in
theorem wpB_stat {α : Type} {f : FuncId} {fn : Func} (hf : Tryz.prog.funcs[f]? = some fn) {g : Operand} {p1 p2 : Tmp} {body : Code} {Q : Exit -> Act -> World -> Prop} {a : Act} {W : World} {Rb Tb Eb top : Nat} (F : Nat -> α -> List Nat -> List Nat -> Res α)
  (I : α -> List Nat -> World -> Prop) (J : Nat -> α -> List Nat -> World -> Prop) (Pn : Out -> List Nat -> World -> Prop) (a0 : α) (mu : α -> Nat) (hmu : ∀ line a1 l1 a2 l2,F line a1 fed l1 = .val a2 l2 -> mu a2 = mu a1 + 1)
  (hg : a.eval g = .func (.func 113) #[] #[.pointer (some ⟨Rb,0,none⟩),.pointer (some ⟨Tb,0,none⟩),.pointer (some ⟨Eb,0,none⟩)])
  (htop : top <= 100000) (hnf : nf <= 20000) (hx64 : ∀ x ∈ fed,x < 18446744073709551616) (hR : R < W.heap.size)
  (hI : ∀ a l V,I a l V -> RuAt R FA nf cf fed l.length V ∧ EntAt R Rb Tb Eb top (.func (.func 60) #[] #[]) V ∧ l.length <= nf)
  (hIk : ∀ a l l' V V',W.heap.size + 2 <= V.heap.size -> I a l V -> RuAt R FA nf cf fed l'.length V' -> UB R V.heap.size V V' -> l'.length <= nf -> I a l' V')
  (hIp : ∀ a l V b o,I a l V -> W.heap.size <= b -> b < W.heap.size + 2 -> b < V.heap.size -> I a l (V.putObj b o))
  (hPn : ∀ a l o l' V V',W.heap.size + 2 <= V.heap.size -> I a l V -> BehindU (α := Nat) R FA nf cf fed (.stop o l') V' -> UB R V.heap.size V V' -> Pn o l' V')
  (hbody : ∀ line many a1 l V,W.heap.size + 2 <= V.heap.size -> mu a1 < mu a0 + 7168 -> I a1 l V -> body.wpIn (Fence.wide.inRound (W.heap.size + 1)) 7 Tryz.prog (fun e a' V' => e = .normal ∧ J line a1 l V' ∧ KpTwo W.heap.size V V') { tmps := (a.tmps.setIfInBounds p1 (.int .i64 (many : Nat))).setIfInBounds p2 (.int .i64 (line : Nat)),defers := [] } V)
  (hJp : ∀ line a1 l V o,J line a1 l V -> W.heap.size + 1 < V.heap.size -> J line a1 l (V.putObj (W.heap.size + 1) o))
  (hJe : ∀ line a1 l V,J line a1 l V -> V.cell? ⟨Eb,0,none⟩ = some (.func (.func 60) #[] #[]))
  (hE : ∀ line a1 l V,1 <= line -> line < 1024 -> mu a1 < mu a0 + 7168 -> W.heap.size + 2 <= V.heap.size -> J line a1 l V -> Calls Tryz.prog 60 #[.int .i64 (line : Nat)] V fun e V' => EPost I Pn (F line a1 fed l) e V' ∧ KpTwo W.heap.size V V')
  (h0 : ∀ V,Below W.heap.size W V -> I a0 ats V)
  (hdone : ∀ a1 l V,Hid (bucketsE F fed top 7 0 a0 ats = .val a1 l) -> I a1 l V -> V.heap[W.heap.size]? = some (.deferred (some [])) -> Q .normal { a with defers := { target := .collected W.heap.size,args := #[] } :: a.defers } V)
  (hstop : ∀ o l V,Hid (bucketsE F fed top 7 0 a0 ats = .stop o l) -> Pn o l V -> V.heap[W.heap.size]? = some (.deferred (some [])) -> Q (.panic [outU o]) { a with defers := { target := .collected W.heap.size,args := #[] } :: a.defers } V) :
  WpB f Tryz.prog (Code.rangeFunc g #[p1,p2] .skip body) Q a W := by
 refine wpB_rangeFunc hg (enters_of Tryz.func113 (by kernel_rfl) rfl) ?_
 obtain ⟨rec,hrec⟩ : ∃ rec : LoopState -> Option Code -> Loop,(fun st pe => recOf f a.tmps #[p1,p2] .skip body W.heap.size st pe) = rec := ⟨_,rfl⟩
 have hr0 : ∀ st pe,recOf f a.tmps #[p1,p2] .skip body W.heap.size st pe = rec st pe := fun st pe => by rw [<- hrec]
 obtain ⟨W4,hW4⟩ : ∃ W4,(W.alloc (.deferred (some []))).alloc (.loop (rec .ready none)) = W4 := ⟨_,rfl⟩
 rw [hr0,hW4]
 have hs4 : W4.heap.size = W.heap.size + 1 + 1 := by rw [<- hW4];simp
 have hb4 : Below W.heap.size W W4 := by rw [<- hW4];exact ((Below.refl _ W).alloc (Nat.le_refl _) _).alloc (by simp) _
 have hL4 : W4.heap[W.heap.size + 1]? = some (.loop (rec .ready none)) := by
  rw [<- hW4];have := World.alloc_heap_new (w := W.alloc (.deferred (some []))) (.loop (rec .ready none));rwa [World.size_alloc] at this
 have hD4 : W4.heap[W.heap.size]? = some (.deferred (some [])) := by
  rw [<- hW4];exact (Below.heap_alloc _ _ _ (by simp)).trans (World.alloc_heap_new (w := W) _)
 have hpe : ∀ st pe,(rec st pe).pending = pe := fun st pe => by rw [<- hrec];rfl
 refine callsIn_wide.2 ((entries_stat (R := R) (FA := FA) (cf := cf) (α := α) F (W.heap.size + 1) Rb Tb Eb top
  (fun a l V => I a l V ∧ V.heap[W.heap.size + 1]? = some (.loop (rec .ready none)) ∧ V.heap[W.heap.size]? = some (.deferred (some [])) ∧ W.heap.size + 2 <= V.heap.size)
  (fun line a l V => J line a l V ∧ V.heap[W.heap.size + 1]? = some (.loop (rec .ready none)) ∧ V.heap[W.heap.size]? = some (.deferred (some [])) ∧ W.heap.size + 2 <= V.heap.size)
  (fun o l V => Pn o l V ∧ V.heap[W.heap.size]? = some (.deferred (some []))) a0 W4 mu hmu htop hnf hx64 ?_ ?_ ?_ ?_ ?_ ⟨h0 W4 hb4,hL4,hD4,by omega⟩).mono ?_)
 ·rintro a1 l V ⟨h1,_⟩
  exact hI a1 l V h1
 ·rintro a1 l l' V V' ⟨h1,h2,h3,h4⟩ h5 h6 h7
  exact ⟨hIk a1 l l' V V' h4 h1 h5 h6 h7,(h6.keep _ (by omega) (by omega)).trans h2,(h6.keep _ (by omega) (by omega)).trans h3,by have := h6.size;omega⟩
 ·rintro a1 l o l' V V' ⟨h1,h2,h3,h4⟩ h5 h6
  exact ⟨hPn a1 l o l' V V' h4 h1 h5 h6,(h6.keep _ (by omega) (by omega)).trans h3⟩
 ·rintro many line a1 l V h11 h12 h13 ⟨h1,h2,h3,h4⟩
  obtain ⟨V5,hV5⟩ : ∃ V5,V.putObj (W.heap.size + 1) (.loop (rec .busy none)) = V5 := ⟨_,rfl⟩
  have hs5 : V5.heap.size = V.heap.size := by rw [<- hV5];simp [World.putObj]
  have hI5 : I a1 l V5 := by rw [<- hV5];exact hIp _ _ _ _ _ h1 (by omega) (by omega) (by omega)
  have hL5 : V5.heap[W.heap.size + 1]? = some (.loop (rec .busy none)) := by rw [<- hV5];exact World.putObj_heap_same (by omega)
  have hD5 : V5.heap[W.heap.size]? = some (.deferred (some [])) := by rw [<- hV5];exact (World.putObj_heap_other (by omega)).trans h3
  refine yields_of_at ((yieldP (P := Tryz.prog) (f := f) (l := W.heap.size + 1) (D := W.heap.size) (args := #[.int .i64 (many : Nat),.int .i64 (line : Nat)]) (ps := #[p1,p2]) (assign := .skip) (body := body) (tmps := a.tmps) (W := V) hf rfl (by rw [hr0];exact h2)
   (fun V6 => J line a1 l V6 ∧ KpTwo W.heap.size V5 V6) (fun _ _ => False) (fun _ _ => False)
   { tmps := (a.tmps.setIfInBounds p1 (.int .i64 (many : Nat))).setIfInBounds p2 (.int .i64 (line : Nat)),defers := [] } (fun K hK => wpIn_skip (by simpa using hK)) ?_).mono ?_)
  ·rw [hr0,hV5]
   refine wpIn_mono (hbody line many a1 l V5 (by omega) h13 hI5) ?_
   rintro e a3 V6 ⟨rfl,h5,h6⟩
   exact ⟨(h6.2 _ (by omega) (by omega)).trans hL5,h5,h6⟩
  ·rintro e V' (⟨rfl,V6,⟨h5,h6⟩,h7,rfl⟩ | ⟨_,_,_,hF,_⟩ | ⟨_,_,hF⟩)
   ·have hs6 := h6.1
    rw [hr0]
    refine ⟨rfl,⟨hJp _ _ _ _ _ h5 (by omega),World.putObj_heap_same (by omega),(World.putObj_heap_other (by omega)).trans ((h6.2 _ (by omega) (by omega)).trans hD5),by simp [World.putObj];omega⟩,?_⟩
    exact hJe line a1 l _ (hJp _ _ _ _ _ h5 (by omega))
   ·exact hF.elim
   ·exact hF.elim
 ·rintro line a1 l V h11 h12 h13 ⟨h1,h2,h3,h4⟩
  refine (hE line a1 l V h11 h12 h13 h4 h1).mono ?_
  rintro e V' ⟨h5,h6⟩
  unfold EPost at h5 ⊢
  cases hr : F line a1 fed l with
  | val a2 l2 =>
   rw [hr] at h5
   exact ⟨h5.1,h5.2,(h6.2 _ (by omega) (by omega)).trans h2,(h6.2 _ (by omega) (by omega)).trans h3,by have := h6.1;omega⟩
  | stop o l2 =>
   rw [hr] at h5
   exact ⟨h5.1,h5.2,(h6.2 _ (by omega) (by omega)).trans h3⟩
 ·rintro e V hp
  unfold EPost at hp
  cases hr : bucketsE F fed top 7 0 a0 ats with
  | stop o l =>
   rw [hr] at hp
   obtain ⟨rfl,h1,h2⟩ := hp
   exact hstop o l V hr h1 h2
  | val a1 l =>
   rw [hr] at hp
   obtain ⟨rfl,h1,h2,h3,h4⟩ := hp
   exact ⟨none,_,(run_endLoop h2 (by rw [<- hrec];simp [recOf])).trans (by rw [hpe]),hdone a1 l _ hr (hIp _ _ _ _ _ h1 (by omega) (by omega) (by omega)) ((World.putObj_heap_other (by omega)).trans h3)⟩
set_option maxHeartbeats 1000000 in
theorem wpB_list {α : Type} {f : FuncId} {fn : Func} (hf : Tryz.prog.funcs[f]? = some fn) {g : Operand} {p1 p2 : Tmp} {body : Code} {Q : Exit -> Act -> World -> Prop} {a : Act} {W : World} {Rb Tb Eb top : Nat} {Ab Cb : Nat} (F : Nat -> α -> List Nat -> List Nat -> Res α)
  (I : α -> List Nat -> World -> Prop) (J : Nat -> α -> List Nat -> World -> Prop) (Pn : Out -> List Nat -> World -> Prop) (a0 : α) (mu : α -> Nat) (hmu : ∀ line a1 l1 a2 l2,F line a1 fed l1 = .val a2 l2 -> mu a2 = mu a1 + 1)
  (hg : a.eval g = .func (.func 113) #[] #[.pointer (some ⟨Rb,0,none⟩),.pointer (some ⟨Tb,0,none⟩),.pointer (some ⟨Eb,0,none⟩)])
  (htop : top <= 100000) (hnf : nf <= 20000) (hx64 : ∀ x ∈ fed,x < 18446744073709551616) (hR : R < W.heap.size)
  (hI : ∀ a l V,I a l V -> RuAt R FA nf cf fed l.length V ∧ EntAt R Rb Tb Eb top (.func (.func 61) #[] #[.pointer (some ⟨Ab,0,none⟩),.pointer (some ⟨Cb,0,none⟩)]) V ∧ l.length <= nf)
  (hIk : ∀ a l l' V V',W.heap.size + 2 <= V.heap.size -> I a l V -> RuAt R FA nf cf fed l'.length V' -> UB R V.heap.size V V' -> l'.length <= nf -> I a l' V')
  (hIp : ∀ a l V b o,I a l V -> W.heap.size <= b -> b < W.heap.size + 2 -> b < V.heap.size -> I a l (V.putObj b o))
  (hPn : ∀ a l o l' V V',W.heap.size + 2 <= V.heap.size -> I a l V -> BehindU (α := Nat) R FA nf cf fed (.stop o l') V' -> UB R V.heap.size V V' -> Pn o l' V')
  (hbody : ∀ line many a1 l V,W.heap.size + 2 <= V.heap.size -> mu a1 < mu a0 + 7168 -> I a1 l V -> body.wpIn (Fence.wide.inRound (W.heap.size + 1)) 7 Tryz.prog (fun e a' V' => e = .normal ∧ J line a1 l V' ∧ KpTwo W.heap.size V V') { tmps := (a.tmps.setIfInBounds p1 (.int .i64 (many : Nat))).setIfInBounds p2 (.int .i64 (line : Nat)),defers := [] } V)
  (hJp : ∀ line a1 l V o,J line a1 l V -> W.heap.size + 1 < V.heap.size -> J line a1 l (V.putObj (W.heap.size + 1) o))
  (hJe : ∀ line a1 l V,J line a1 l V -> V.cell? ⟨Eb,0,none⟩ = some (.func (.func 61) #[] #[.pointer (some ⟨Ab,0,none⟩),.pointer (some ⟨Cb,0,none⟩)]))
  (hE : ∀ line a1 l V,1 <= line -> line < 1024 -> mu a1 < mu a0 + 7168 -> W.heap.size + 2 <= V.heap.size -> J line a1 l V -> Calls Tryz.prog 61 #[.int .i64 (line : Nat),.pointer (some ⟨Ab,0,none⟩),.pointer (some ⟨Cb,0,none⟩)] V fun e V' => EPost I Pn (F line a1 fed l) e V' ∧ KpTwo W.heap.size V V')
  (h0 : ∀ V,Below W.heap.size W V -> I a0 ats V)
  (hdone : ∀ a1 l V,Hid (bucketsE F fed top 7 0 a0 ats = .val a1 l) -> I a1 l V -> V.heap[W.heap.size]? = some (.deferred (some [])) -> Q .normal { a with defers := { target := .collected W.heap.size,args := #[] } :: a.defers } V)
  (hstop : ∀ o l V,Hid (bucketsE F fed top 7 0 a0 ats = .stop o l) -> Pn o l V -> V.heap[W.heap.size]? = some (.deferred (some [])) -> Q (.panic [outU o]) { a with defers := { target := .collected W.heap.size,args := #[] } :: a.defers } V) :
  WpB f Tryz.prog (Code.rangeFunc g #[p1,p2] .skip body) Q a W := by
 refine wpB_rangeFunc hg (enters_of Tryz.func113 (by kernel_rfl) rfl) ?_
 obtain ⟨rec,hrec⟩ : ∃ rec : LoopState -> Option Code -> Loop,(fun st pe => recOf f a.tmps #[p1,p2] .skip body W.heap.size st pe) = rec := ⟨_,rfl⟩
 have hr0 : ∀ st pe,recOf f a.tmps #[p1,p2] .skip body W.heap.size st pe = rec st pe := fun st pe => by rw [<- hrec]
 obtain ⟨W4,hW4⟩ : ∃ W4,(W.alloc (.deferred (some []))).alloc (.loop (rec .ready none)) = W4 := ⟨_,rfl⟩
 rw [hr0,hW4]
 have hs4 : W4.heap.size = W.heap.size + 1 + 1 := by rw [<- hW4];simp
 have hb4 : Below W.heap.size W W4 := by rw [<- hW4];exact ((Below.refl _ W).alloc (Nat.le_refl _) _).alloc (by simp) _
 have hL4 : W4.heap[W.heap.size + 1]? = some (.loop (rec .ready none)) := by
  rw [<- hW4];have := World.alloc_heap_new (w := W.alloc (.deferred (some []))) (.loop (rec .ready none));rwa [World.size_alloc] at this
 have hD4 : W4.heap[W.heap.size]? = some (.deferred (some [])) := by
  rw [<- hW4];exact (Below.heap_alloc _ _ _ (by simp)).trans (World.alloc_heap_new (w := W) _)
 have hpe : ∀ st pe,(rec st pe).pending = pe := fun st pe => by rw [<- hrec];rfl
 refine callsIn_wide.2 ((entries_list (R := R) (FA := FA) (cf := cf) (α := α) F (W.heap.size + 1) Rb Tb Eb top Ab Cb
  (fun a l V => I a l V ∧ V.heap[W.heap.size + 1]? = some (.loop (rec .ready none)) ∧ V.heap[W.heap.size]? = some (.deferred (some [])) ∧ W.heap.size + 2 <= V.heap.size)
  (fun line a l V => J line a l V ∧ V.heap[W.heap.size + 1]? = some (.loop (rec .ready none)) ∧ V.heap[W.heap.size]? = some (.deferred (some [])) ∧ W.heap.size + 2 <= V.heap.size)
  (fun o l V => Pn o l V ∧ V.heap[W.heap.size]? = some (.deferred (some []))) a0 W4 mu hmu htop hnf hx64 ?_ ?_ ?_ ?_ ?_ ⟨h0 W4 hb4,hL4,hD4,by omega⟩).mono ?_)
 ·rintro a1 l V ⟨h1,_⟩
  exact hI a1 l V h1
 ·rintro a1 l l' V V' ⟨h1,h2,h3,h4⟩ h5 h6 h7
  exact ⟨hIk a1 l l' V V' h4 h1 h5 h6 h7,(h6.keep _ (by omega) (by omega)).trans h2,(h6.keep _ (by omega) (by omega)).trans h3,by have := h6.size;omega⟩
 ·rintro a1 l o l' V V' ⟨h1,h2,h3,h4⟩ h5 h6
  exact ⟨hPn a1 l o l' V V' h4 h1 h5 h6,(h6.keep _ (by omega) (by omega)).trans h3⟩
 ·rintro many line a1 l V h11 h12 h13 ⟨h1,h2,h3,h4⟩
  obtain ⟨V5,hV5⟩ : ∃ V5,V.putObj (W.heap.size + 1) (.loop (rec .busy none)) = V5 := ⟨_,rfl⟩
  have hs5 : V5.heap.size = V.heap.size := by rw [<- hV5];simp [World.putObj]
  have hI5 : I a1 l V5 := by rw [<- hV5];exact hIp _ _ _ _ _ h1 (by omega) (by omega) (by omega)
  have hL5 : V5.heap[W.heap.size + 1]? = some (.loop (rec .busy none)) := by rw [<- hV5];exact World.putObj_heap_same (by omega)
  have hD5 : V5.heap[W.heap.size]? = some (.deferred (some [])) := by rw [<- hV5];exact (World.putObj_heap_other (by omega)).trans h3
  refine yields_of_at ((yieldP (P := Tryz.prog) (f := f) (l := W.heap.size + 1) (D := W.heap.size) (args := #[.int .i64 (many : Nat),.int .i64 (line : Nat)]) (ps := #[p1,p2]) (assign := .skip) (body := body) (tmps := a.tmps) (W := V) hf rfl (by rw [hr0];exact h2)
   (fun V6 => J line a1 l V6 ∧ KpTwo W.heap.size V5 V6) (fun _ _ => False) (fun _ _ => False)
   { tmps := (a.tmps.setIfInBounds p1 (.int .i64 (many : Nat))).setIfInBounds p2 (.int .i64 (line : Nat)),defers := [] } (fun K hK => wpIn_skip (by simpa using hK)) ?_).mono ?_)
  ·rw [hr0,hV5]
   refine wpIn_mono (hbody line many a1 l V5 (by omega) h13 hI5) ?_
   rintro e a3 V6 ⟨rfl,h5,h6⟩
   exact ⟨(h6.2 _ (by omega) (by omega)).trans hL5,h5,h6⟩
  ·rintro e V' (⟨rfl,V6,⟨h5,h6⟩,h7,rfl⟩ | ⟨_,_,_,hF,_⟩ | ⟨_,_,hF⟩)
   ·have hs6 := h6.1
    rw [hr0]
    refine ⟨rfl,⟨hJp _ _ _ _ _ h5 (by omega),World.putObj_heap_same (by omega),(World.putObj_heap_other (by omega)).trans ((h6.2 _ (by omega) (by omega)).trans hD5),by simp [World.putObj];omega⟩,?_⟩
    exact hJe line a1 l _ (hJp _ _ _ _ _ h5 (by omega))
   ·exact hF.elim
   ·exact hF.elim
 ·rintro line a1 l V h11 h12 h13 ⟨h1,h2,h3,h4⟩
  refine (hE line a1 l V h11 h12 h13 h4 h1).mono ?_
  rintro e V' ⟨h5,h6⟩
  unfold EPost at h5 ⊢
  cases hr : F line a1 fed l with
  | val a2 l2 =>
   rw [hr] at h5
   exact ⟨h5.1,h5.2,(h6.2 _ (by omega) (by omega)).trans h2,(h6.2 _ (by omega) (by omega)).trans h3,by have := h6.1;omega⟩
  | stop o l2 =>
   rw [hr] at h5
   exact ⟨h5.1,h5.2,(h6.2 _ (by omega) (by omega)).trans h3⟩
 ·rintro e V hp
  unfold EPost at hp
  cases hr : bucketsE F fed top 7 0 a0 ats with
  | stop o l =>
   rw [hr] at hp
   obtain ⟨rfl,h1,h2⟩ := hp
   exact hstop o l V hr h1 h2
  | val a1 l =>
   rw [hr] at hp
   obtain ⟨rfl,h1,h2,h3,h4⟩ := hp
   exact ⟨none,_,(run_endLoop h2 (by rw [<- hrec];simp [recOf])).trans (by rw [hpe]),hdone a1 l _ hr (hIp _ _ _ _ _ h1 (by omega) (by omega) (by omega)) ((World.putObj_heap_other (by omega)).trans h3)⟩
end
end Go.Proofs.YtdpooagnbmpinaaGreatDoor
