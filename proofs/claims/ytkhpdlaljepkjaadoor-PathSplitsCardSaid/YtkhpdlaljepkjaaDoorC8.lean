/- The iterator path.Prefixes. Conditions: none. -/
import Derived.Test.YtkhpdlaljepkjaaDoorC7
import Derived.Test.YtkhpdlaljepkjaaDoorK3
namespace Go.Proofs.YtkhpdlaljepkjaaDoor
open Go.RowKit Go.Shelf
attribute [local go_sem] Oper.semAt_some

/-- A path's beginnings. -/
def prefOf (l : List (List UInt8)) (k : Nat) : Nat × List UInt8 := (k, textP (l.take k))
def prefN (l : List (List UInt8)) : List (Nat × List UInt8) := if l = [] then [] else (List.range (l.length + 1)).map (prefOf l)
def encPref (x : Nat × List UInt8) : Array Value := #[.int .i64 x.1, .string (ofBytes x.2)]

/-- What the loop over the beginnings keeps. -/
def PI (nm : List (List UInt8)) (W W2 : World) (J : List (Nat × List UInt8) → World → Prop) (pre : List Nat) (Wx : World) : Prop :=
  J (pre.map (prefOf nm)) Wx ∧ (∀ k, W.heap.size ≤ k → k < W2.heap.size → Wx.heap[k]? = W2.heap[k]?) ∧ W2.heap.size ≤ Wx.heap.size
def PIx (nm : List (List UInt8)) (Jx : List (Nat × List UInt8) → World → Prop) (c : Code) (pre : List Nat) (Wx : World) : Prop :=
  Jx (pre.map (prefOf nm)) Wx ∧ c = .exit 0
theorem pi_own {nm : List (List UInt8)} {W W2 : World} {J : List (Nat × List UInt8) → World → Prop} (h : OwnFrom W2.heap.size J) : OwnFrom W2.heap.size (PI nm W W2 J) :=
  fun s X Y row hs hg hr => ⟨h _ X Y row hs.1 hg hr, fun k h1 h2 => (hg.block k (by have := hs.2.2; omega) (fun e => by have := (hr k e.symm).1; omega)).trans (hs.2.1 k h1 h2), Nat.le_trans hs.2.2 hg.size⟩
theorem pix_own {nm : List (List UInt8)} {B : Nat} {Jx : List (Nat × List UInt8) → World → Prop} {c : Code} (h : OwnFrom B Jx) : OwnFrom B (PIx nm Jx c) :=
  fun _ X Y row hs hg hr => ⟨h _ X Y row hs.1 hg hr, hs.2⟩

theorem prefixes_any (s : ByteArray) (w : World) :
    Calls Tryd.prog 17 #[.string s] w fun e w' => e = .returned (.func (.func 26) #[] #[.pointer (some ⟨w.heap.size, 0, none⟩)]) ∧ w' = w.alloc (.cells #[.string s] 9) := by
  go_enter Tryd.func17, Tryd.ntmps17
  go_wp2
  go_ret
  exact ⟨rfl, rfl⟩

set_option maxRecDepth 100000 in
set_option maxHeartbeats 2000000 in
theorem prefixes1_in (l Bn : Nat) (s : ByteArray) (hs : s.size < 4294967281) (J Jx : Nat → List (Nat × List UInt8) → World → Prop) (W : World)
    (hJ : ∀ H, OwnFrom W.heap.size (J H)) (hJx : ∀ H, OwnFrom W.heap.size (Jx H))
    (hY : ∀ H pre x W1, W.heap.size ≤ H → H ≤ W1.heap.size → J H pre W1 → pre ++ [x] <+: prefN (readP (bytesOf s)).2 → Yields Tryd.prog l (encPref x) W1 fun e W' =>
      (e = .returned (.bool true) ∧ J H (pre ++ [x]) W' ∧ Keeps W.heap.size 0 H W1 W') ∨ (e = .returned (.bool false) ∧ Jx H (pre ++ [x]) W' ∧ Keeps W.heap.size 0 H W1 W'))
    (hc : W.cell? ⟨Bn, 0, none⟩ = some (.string s)) (h0 : ∀ H, W.heap.size ≤ H → J H [] W) :
    Calls Tryd.prog 26 #[.func (.yield l) #[] #[], .pointer (some ⟨Bn, 0, none⟩)] W fun e W' => (∃ v, e = .returned v) ∧
      ((∃ H xs, W.heap.size ≤ H ∧ xs = prefN (readP (bytesOf s)).2 ∧ J H xs W') ∨ (∃ H pre, W.heap.size ≤ H ∧ pre <+: prefN (readP (bytesOf s)).2 ∧ Jx H pre W')) := by
  have HY := Lib.hid hY
  have H0 := Lib.hid h0
  have HJ := Lib.hid hJ
  have HJx := Lib.hid hJx
  have hBn : Bn < W.heap.size := World.block_lt_of_cell? W ⟨Bn, 0, none⟩ hc
  have HC := Lib.hid (fun W => read_any s W hs)
  have HCS := Lib.hid (readP_cases (bytesOf s))
  unfold ReadPost at HC
  generalize readP (bytesOf s) = rp at *
  obtain ⟨z, nm⟩ := rp
  simp only at HC HCS ⊢
  clear hY h0 hJ hJx hs
  have hq : (z != 0) = true ∧ nm = [] ∨ z = 0 ∧ nm = [] ∨ z = 0 ∧ 0 < nm.length ∧ Fine nm := by
    rcases HCS.out with ⟨e1, e2, _⟩ | ⟨e1, e2⟩
    · cases nm with
      | nil => exact .inr (.inl ⟨e1, rfl⟩)
      | cons y ys => exact .inr (.inr ⟨e1, by simp, e2⟩)
    · exact .inl ⟨by rw [bne_iff_ne]; omega, e2⟩
  clear HCS
  refine calls_of_wp_marks Tryd.func26 rfl ?_
  simp only [Tryd.ntmps26, List.size_toArray, List.length_cons, List.length_nil, Nat.reduceAdd, Nat.reduceSub, Array.replicate_succ, Array.replicate_zero, List.push_toArray, List.append_toArray, List.nil_append, List.cons_append]
  rcases hq with ⟨hz, rfl⟩ | ⟨rfl, rfl⟩ | ⟨rfl, hl, hf⟩
  iterate 2
    · go_wp2_with fail
      apply wp_scope_straight
      go_wp2_with go_step3
      refine (HC.out _).mono ?_
      rintro e w' ⟨v, rfl, ⟨A, c, rfl, h1, h2, h3⟩, hb, _⟩
      clear h3
      go_wp2_with go_step3
      rw [Exit.noGoto_ret]
      refine ret_plain (results_none rfl _ _ _) ⟨⟨_, rfl⟩, .inl ⟨W.heap.size, [], Nat.le_refl _, rfl, ?_⟩⟩
      have hB : Below W.heap.size W w' := by
        refine ((Below.refl _ W).alloc (Nat.le_refl _) _).trans (hb.mono (by simp))
      exact OwnFrom.below (HJ.out _) (H0.out _ (Nat.le_refl _)) (hB.alloc hB.size _)
  · have hf1 := hf.1
    have HF := Lib.hid hf
    clear hf
    have HPN : Hid (prefN nm = (List.range (nm.length + 1)).map (prefOf nm)) := if_neg (fun e => by rw [e] at hl; simp at hl)
    go_wp2_with fail
    apply wp_scope_straight
    go_wp2_with go_step3
    refine (HC.out _).mono ?_
    rintro e w' ⟨v, rfl, ⟨A, c, rfl, h1, h2, h3⟩, hb, hfr⟩
    have HFR := Lib.hid hfr
    clear hfr
    have H3 := Lib.hid h3
    have HB : Hid (Below W.heap.size W w') := ((Below.refl _ W).alloc (Nat.le_refl _) _).trans (hb.mono (by simp))
    obtain ⟨hc', _⟩ := cells_after hb
    have hz1 : W.heap.size + 1 ≤ w'.heap.size := by have := hb.size; simp at this; omega
    have hcy : w'.cell? ⟨W.heap.size, 0, none⟩ = some (.func (.yield l) #[] #[]) := by rw [hc' _ _ (by simp)]; simp
    obtain ⟨n, HN, hn0, hn16⟩ : ∃ m : Nat, Hid (nm.length = m) ∧ 0 < m ∧ m ≤ 16 := ⟨_, rfl, hl, hf1⟩
    rw [HN.out] at h1 ⊢
    clear h3 hb hc' hl hf1
    go_wp2_with (first | go_step3 | (go_at_call 27; refine (counts_any _ _).mono ?_; rintro e w2 ⟨rfl, rfl⟩))
    have hsz2 : ((w'.alloc (.cells #[.slice A n c] 54)).alloc (.cells #[.int .i64 n] 3)).heap.size = w'.heap.size + 2 := by simp
    have hb2 : Below w'.heap.size w' ((w'.alloc (.cells #[.slice A n c] 54)).alloc (.cells #[.int .i64 n] 3)) := ((Below.refl _ _).alloc (Nat.le_refl _) _).alloc (by simp) _
    have hcy2 := (hb2.cell (p := ⟨W.heap.size, 0, none⟩) (by show W.heap.size < _; omega)).trans hcy
    have hcs2 : ((w'.alloc (.cells #[.slice A n c] 54)).alloc (.cells #[.int .i64 n] 3)).cell? ⟨w'.heap.size, 0, none⟩ = some (.slice A n c) := by
      rw [World.cell?_alloc_lt _ _ _ (by simp)]; simp
    have hcn2 : ((w'.alloc (.cells #[.slice A n c] 54)).alloc (.cells #[.int .i64 n] 3)).cell? ⟨w'.heap.size + 1, 0, none⟩ = some (.int .i64 n) := by
      simp
    have hrow2 := H3.out.below hb2
    generalize ((w'.alloc (.cells #[.slice A n c] 54)).alloc (.cells #[.int .i64 n] 3)) = W2 at *
    have HB2 : Hid (Below W.heap.size W W2) := HB.out.trans (hb2.mono (by omega))
    have HR2 := Lib.hid hrow2
    have HCY := Lib.hid hcy2
    have HCSL := Lib.hid hcs2
    clear hcy hcy2 hcs2 hrow2 hb2
    have hIo : ∀ H, OwnFrom W2.heap.size (PI nm W W2 (J H)) := fun H => pi_own (ownFrom_mono (HJ.out H) (by omega))
    have hIxo : ∀ H (cc : Code), OwnFrom W2.heap.size (PIx nm (Jx H) cc) := fun H cc => pix_own (ownFrom_mono (HJx.out H) (by omega))
    refine wp_range_fix (gf := 36) (lb := #[.pointer (some ⟨w'.heap.size + 1, 0, none⟩)]) rfl (enters_of Tryd.func36 (by kernel_rfl) rfl)
      (counts_iter (w'.heap.size + 1) n (by omega) W2 (by omega) hcn2) (Below.refl _ _) (Nat.zero_le _) (fun _ => rfl)
      (fun H => PI nm W W2 (J H)) (fun H => PIx nm (Jx H)) hIo hIxo
      (fun H hH => ⟨OwnFrom.below (HJ.out H) (H0.out H (by have := HB2.out.size; omega)) HB2.out, fun _ _ _ => rfl, Nat.le_refl _⟩)
      ?_ ?_ ?_ ?_ ?_
    rotate_left
    · intro l x W K hK
      gi_wp2
      exact hK
    · rintro l' H pre x W1 hl hlH hHW _ ⟨hj, hm, hs1⟩ hlen
      obtain ⟨hpre, hxn⟩ := range_prefix_inv hlen
      have HLE : Hid (pre.map (prefOf nm) ++ [prefOf nm x] <+: prefN nm) := by
        rw [Hid, HPN.out, HN.out]
        have := List.IsPrefix.map (prefOf nm) hlen
        rwa [List.map_append] at this
      clear hlen
      have hcy1 : W1.cell? ⟨W.heap.size, 0, none⟩ = some (.func (.yield l) #[] #[]) := (World.cell?_of_block (hm _ (Nat.le_refl _) (by show W.heap.size < W2.heap.size; omega))).trans HCY.out
      have hcs1 : W1.cell? ⟨w'.heap.size, 0, none⟩ = some (.slice A n c) := (World.cell?_of_block (hm _ (by show W.heap.size ≤ w'.heap.size; omega) (by show w'.heap.size < W2.heap.size; omega))).trans HCSL.out
      have HT : Hid (∀ Wt, Below W1.heap.size W1 Wt → Calls Tryd.prog 24 #[.slice A n c, .int .i64 x] Wt fun e W' => e = .returned (.string (ofBytes (textP (nm.take x)))) ∧ Below Wt.heap.size Wt W') := fun Wt hWt => by
        refine text_any nm A c x n Wt HN.out (by omega) h1 h2 HF.out (RowAt.below ?_ hWt)
        intro hpos
        obtain ⟨b, off, e, hb, hcl⟩ := HR2.out hpos
        have hbW : W.heap.size + 1 ≤ b := by
          have := HFR.out A n c (by rw [HN.out]) ⟨b, off, none⟩ e
          simpa using this
        exact ⟨b, off, e, by omega, fun k u hu => (World.cell?_of_block (hm b (by omega) hb)).trans (hcl k u hu)⟩
      have HM := Lib.hid hm
      have HJ1 := Lib.hid hj
      clear hm hj
      gi_wp2
      rename_i KK hKK
      have HKK := Lib.hid hKK
      clear hKK
      have hmx : Tryd.prog.follows .mixedOrders = true := by kernel_rfl
      have HKC : Hid (∀ w2, Below (W1.drew).heap.size W1.drew w2 → Hid (w2.cell? ⟨W.heap.size, 0, none⟩ = some (.func (.yield l) #[] #[]) ∧ w2.cell? ⟨w'.heap.size, 0, none⟩ = some (.slice A n c))) := fun w2 hb2 =>
        ⟨(hb2.cell (p := ⟨W.heap.size, 0, none⟩) (by show W.heap.size < W1.heap.size; omega)).trans hcy1, (hb2.cell (p := ⟨w'.heap.size, 0, none⟩) (by show w'.heap.size < W1.heap.size; omega)).trans hcs1⟩
      have HYB : Hid (∀ w2, Below (W1.drew).heap.size W1.drew w2 → Yields Tryd.prog l #[.int .i64 x, .string (ofBytes (textP (nm.take x)))] w2 fun e W' => ∃ bb, e = .returned (.bool bb) ∧ Hid ((bb = true ∧ J H (pre.map (prefOf nm) ++ [prefOf nm x]) W' ∧ Keeps W.heap.size 0 H w2 W') ∨ (bb = false ∧ Jx H (pre.map (prefOf nm) ++ [prefOf nm x]) W' ∧ Keeps W.heap.size 0 H w2 W'))) := fun w2 hb2 =>
        yields_bool (HY.out H (pre.map (prefOf nm)) (prefOf nm x) w2 (by omega) (by have := hb2.size; simp at this; omega) (OwnFrom.below (HJ.out H) HJ1.out ((Below.refl _ _).drew.trans hb2)) HLE.out)
      refine whichever_region (fun w2 => w2.cell? ⟨W.heap.size, 0, none⟩ = some (.func (.yield l) #[] #[]) ∧ w2.cell? ⟨w'.heap.size, 0, none⟩ = some (.slice A n c)) [6, 7] hmx ?_
      have hS0 := (HKC.out W1.drew (Below.refl _ _)).out
      refine whichever_take 0 (.func (.yield l) #[] #[]) [6, 7] rfl (by kernel_rfl) (fun _ _ _ h => h) hS0 (by rfl) (fun w hw => ?_) ?_
      · obtain ⟨hw1, hw2⟩ := hw
        constructor <;> go_simp
      refine whichever_take 1 (.int .i64 x) [6, 7] rfl (by kernel_rfl) (fun _ _ _ h => h) hS0 (by rfl) (fun w hw => ?_) ?_
      · constructor <;> go_simp
      refine whichever_take 2 (.pointer (some ⟨w'.heap.size, 0, none⟩)) [3, 5, 6, 7] rfl (by kernel_rfl) (fun _ _ _ h => h) hS0 (by rfl) (fun w hw => ?_) ?_
      · constructor <;> go_simp
      refine whichever_take 3 (.slice A n c) [5, 6, 7] rfl (by kernel_rfl) (fun _ _ _ h => h) hS0 (by rfl) (fun w hw => ?_) ?_
      · obtain ⟨hw1, hw2⟩ := hw
        constructor <;> go_simp
      refine whichever_take 4 (.int .i64 x) [5, 6, 7] rfl (by kernel_rfl) (fun _ _ _ h => h) hS0 (by rfl) (fun w hw => ?_) ?_
      · constructor <;> go_simp
      refine whichever_next 5 rfl (by kernel_rfl) (by rfl) ?_
      go_simp
      refine ⟨trivial, ?_⟩
      gi_at_call 24
      refine (CallsIn.inRound l' (callsIn_wide.2 (HT.out _ ((Below.refl _ _).drew)))).mono ?_
      rintro e w2 ⟨rfl, hb2⟩
      simp only
      have hS2 := (HKC.out w2 hb2).out
      refine ⟨hS2, ?_⟩
      obtain ⟨fn, tm, asg, bo, hy, hR⟩ := HYB.out w2 hb2
      have HRR := Lib.hid hR
      clear hR
      refine whichever_next 6 rfl (by kernel_rfl) (by rfl) ?_
      go_simp
      refine (HRR.out _).mono ?_
      rintro e w3 ⟨bb, rfl, h3⟩
      simp only
      refine whichever_next 7 rfl (by kernel_rfl) (by rfl) ?_
      go_simp
      refine whichever_end (by kernel_rfl) ?_
      go_simp
      refine HKK.out _ _ ?_
      have hsz3 : W1.heap.size ≤ w2.heap.size := by have := hb2.size; simpa using this
      have hk2 : Keeps W2.heap.size 0 H W1 w2 := (Keeps.drew _ _ _ W1).trans (Keeps.of_below hb2 (Nat.zero_le _) (by simpa using hHW))
      rcases h3.out with ⟨rfl, hj3, hk3⟩ | ⟨rfl, hj3, hk3⟩
      · have HG : Hid (Keeps W2.heap.size 0 H W1 w3 ∧ PI nm W W2 (J H) (pre ++ [x]) w3) := by
          refine ⟨hk2.trans (hk3.mono (by omega) (Nat.le_refl _)), by rw [List.map_append]; exact hj3, fun k h1 h2 => ?_, ?_⟩
          · rw [hk3.mine k h1 (by omega), ← HM.out k h1 h2]
            exact hb2.block k (by show k < W1.heap.size; omega)
          · have := hk3.size; omega
        rw [hsz2, hpre] at HG
        gi_wp2
        exact HG.out
      · have HG : Hid (Keeps W2.heap.size 0 H W1 w3 ∧ PIx nm (Jx H) (.exit 0) (pre ++ [x]) w3) := by
          exact ⟨hk2.trans (hk3.mono (by omega) (Nat.le_refl _)), by rw [List.map_append]; exact hj3, rfl⟩
        rw [hsz2, hpre] at HG
        gi_wp2
        exact HG.out
    · rintro D H xs W3 hD hH rfl ⟨hj, hm, hs1⟩ hK
      go_wp2
      rw [Exit.noGoto_normal]
      refine end_mark hK (results_none rfl _ _ _) ⟨⟨_, rfl⟩, .inl ⟨H, _, by omega, ?_, (HJ.out H).putObj _ hj (by omega) hK rfl⟩⟩
      rw [HPN.out, HN.out]
    · rintro D H cc pre W3 hD hH hSp ⟨hj, rfl⟩ hK
      go_wp2
      rw [Exit.noGoto_normal]
      refine end_mark hK (results_none rfl _ _ _) ⟨⟨_, rfl⟩, .inr ⟨H, _, by omega, ?_, (HJx.out H).putObj _ hj (by omega) hK rfl⟩⟩
      rw [HPN.out, HN.out]
      exact List.IsPrefix.map _ hSp

theorem prefixes_iter (Bn : Nat) (s : ByteArray) (hs : s.size < 4294967281) (w : World) (hB : Bn < w.heap.size) (hc : w.cell? ⟨Bn, 0, none⟩ = some (.string s)) :
    Iter Tryd.prog 26 #[.pointer (some ⟨Bn, 0, none⟩)] encPref 0 (fun xs => xs = prefN (readP (bytesOf s)).2) (fun pre => pre <+: prefN (readP (bytesOf s)).2) (fun pre x => pre ++ [x] <+: prefN (readP (bytesOf s)).2) w :=
  fun l J Jx W hW hJ hJx hY h0 => prefixes1_in l Bn s hs J Jx W hJ hJx hY ((hW.cell (p := ⟨Bn, 0, none⟩) hB).trans hc) h0
end Go.Proofs.YtkhpdlaljepkjaaDoor
