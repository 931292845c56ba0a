/- Contracts of tree's file, Put, Link. Contracts of tree's Put, Link. Printed by yg.py. Conditions: none. -/
import Derived.Test.YtibpagmpdgflmaaGreatDoorZYD
import Derived.Test.YtibpagmpdgflmaaGreatDoorZYA
namespace Go.Proofs.YtibpagmpdgflmaaGreatDoor
open Go.RowKit Go.Maps Go.WideMaps
attribute [local go_sem] Oper.semAt_some

/-- The file that a path leads to. -/
def fileE (g : GrP) (root : Nat) (s : List UInt8) : Nat × Nat :=
  match walkG g (readP s).2 root with
  | (n, 0) => (match g n with | some nd => if nd.kids.isSome then (n, 204) else (n, 0) | none => (n, 0))
  | r => r
def FileT (g : GrP) (r : Nat × Nat) (W : World) (e : Ending) (W' : World) : Prop :=
  e = (if r.2 = 0 then .returned (.pointer (some ⟨r.1, 0, none⟩)) else .panicked [errE r.2]) ∧ (r.2 = 0 → ∃ nd, g r.1 = some nd ∧ nd.kids = none) ∧ Below W.heap.size W W'
set_option maxRecDepth 100000 in
set_option maxHeartbeats 4000000 in
theorem tfile_any (g : GrP) (T root : Nat) (s : ByteArray) (W : World) (hs : s.size < 4294967281) (h : GAt W g) (hr : (g root).isSome) (hT : W.cell? ⟨T, 0, none⟩ = some (.pointer (some ⟨root, 0, none⟩))) (hz : (readP (bytesOf s)).1 = 0) :
    Calls Tryz.prog 141 #[.pointer (some ⟨T, 0, none⟩), .string s] W (FileT g (fileE g root (bytesOf s)) W) := by
  have hmx : Tryz.prog.follows .mixedOrders = true := by kernel_rfl
  have HM := Lib.hid tmust_any
  have HTD := Lib.hid tdir_any
  have hf := fineL (bytesOf s)
  have HS : Hid (∀ w, Calls Tryz.prog 146 #[.string s] w fun e W' => (∃ A c, e = .returned (.slice A (readP (bytesOf s)).2.length c) ∧ (readP (bytesOf s)).2.length ≤ c ∧ c ≤ maxLen ∧ RowAt W' A ((readP (bytesOf s)).2.map fun x => .string (ofBytes x))) ∧ Below w.heap.size w W') := fun w => by
    have := tsplit_any s w hs
    unfold SplitT at this
    simp only [hz, if_true] at this
    exact this
  obtain ⟨r, hr2⟩ : ∃ r, fileE g root (bytesOf s) = r := ⟨_, rfl⟩
  rw [hr2]
  obtain ⟨d, zz, hwg⟩ : ∃ d zz, walkG g (readP (bytesOf s)).2 root = (d, zz) := ⟨_, _, rfl⟩
  have HR : Hid (r = if zz = 0 then (match g d with | some nd => if nd.kids.isSome then (d, 204) else (d, 0) | none => (d, 0)) else (d, zz)) := by
    rw [Hid, ← hr2]; unfold fileE; rw [hwg]
    cases zz with
    | zero => rfl
    | succ n => rfl
  clear hr2
  have hTl := World.block_lt_of_cell? W ⟨T, 0, none⟩ hT
  have hS0 : W.drew.cell? ⟨T, 0, none⟩ = some (.pointer (some ⟨root, 0, none⟩)) := hT
  have HG := Lib.hid h
  clear h
  go_enter Tryz.func141, Tryz.ntmps141
  go_wp2_with fail
  rename_i K hK
  have HK := Lib.hid hK
  clear hK
  refine (wpIn_wide (n := 10)).1 ?_
  refine whichever_region (fun w => w.cell? ⟨T, 0, none⟩ = some (.pointer (some ⟨root, 0, none⟩))) [] hmx ?_
  refine whichever_take 0 (.pointer (some ⟨T, 0, none⟩)) [] rfl (by kernel_rfl) (fun _ _ _ h => h) hS0 (by rfl) (fun w hw => ?_) ?_
  · constructor <;> go_simp
  refine whichever_take 1 (.pointer (some ⟨T, 0, none⟩)) [] rfl (by kernel_rfl) (fun _ _ _ h => h) hS0 (by rfl) (fun w hw => ?_) ?_
  · constructor <;> go_simp
  refine whichever_take 2 (.pointer (some ⟨T, 0, none⟩)) [] rfl (by kernel_rfl) (fun _ _ _ h => h) hS0 (by rfl) (fun w hw => ?_) ?_
  · constructor <;> go_simp
  refine whichever_take 3 (.pointer (some ⟨root, 0, none⟩)) [] rfl (by kernel_rfl) (fun _ _ _ h => h) hS0 (by rfl) (fun w hw => ?_) ?_
  · constructor <;> go_simp
  refine whichever_take 4 (.string s) [] rfl (by kernel_rfl) (fun _ _ _ h => h) hS0 (by rfl) (fun w hw => ?_) ?_
  · constructor <;> go_simp
  refine whichever_next 5 rfl (by kernel_rfl) (by rfl) ?_
  go_simp
  refine ⟨trivial, callsIn_wide.2 ((HS.out _).mono ?_)⟩
  rintro e w3 ⟨⟨A, c, rfl, hc1, hc2, hrow⟩, hb3⟩
  have hT3 : w3.cell? ⟨T, 0, none⟩ = some (.pointer (some ⟨root, 0, none⟩)) := (hb3.cell (p := ⟨T, 0, none⟩) (by show T < W.heap.size; exact hTl)).trans hT
  refine ⟨hT3, ?_⟩
  have hB3 : Below W.heap.size W w3 := (Below.refl W.heap.size W).drew.trans hb3
  have hG3 : GAt w3 g := HG.out.below hB3
  have HW := Lib.hid (twalked_any g (readP (bytesOf s)).2 A (readP (bytesOf s)).2.length c root w3 hG3 hr rfl hf.1 hf.2 hrow)
  refine whichever_next 6 rfl (by kernel_rfl) (by rfl) ?_
  go_simp
  refine ⟨trivial, callsIn_wide.2 (HW.out.mono ?_)⟩
  rintro e w4 ⟨he, hsome, rfl⟩
  rw [hwg] at he hsome
  simp only at he hsome
  by_cases hzz : zz = 0
  · subst hzz
    rw [if_pos rfl] at he
    subst he
    obtain ⟨nd, hnd⟩ := Option.isSome_iff_exists.1 (hsome rfl)
    simp only
    refine ⟨hT3, ?_⟩
    refine whichever_next 7 rfl (by kernel_rfl) (by rfl) ?_
    go_simp
    refine whichever_end (by kernel_rfl) ?_
    refine HK.out _ _ ?_
    have HND := Lib.hid (HTD.out d nd w4 (hG3.node d nd hnd))
    cases hki : nd.kids with
    | none =>
      have HS2 : Hid (r = (d, 0)) := by rw [Hid, HR.out, if_pos rfl, hnd]; simp only; rw [hki]; rfl
      have HNK : Hid (g d = some nd ∧ nd.kids = none) := ⟨hnd, hki⟩
      rw [hki] at HND
      clear hnd hki
      go_wp2_with (first
        | (go_at_call 113; refine HND.out.mono ?_; rintro e w5 ⟨rfl, rfl⟩)
        | (go_at_call 130; refine (HM.out _ _ _).mono ?_; rintro e w5 ⟨rfl, rfl⟩))
      go_ret
      unfold FileT
      rw [HS2.out]
      exact ⟨rfl, fun _ => ⟨nd, HNK.out⟩, hB3⟩
    | some p =>
      have HS2 : Hid (r = (d, 204)) := by rw [Hid, HR.out, if_pos rfl, hnd]; simp only; rw [hki]; rfl
      rw [hki] at HND
      clear hnd hki
      go_wp2_with (first
        | (go_at_call 113; refine HND.out.mono ?_; rintro e w5 ⟨rfl, rfl⟩)
        | (go_at_call 130; refine (HM.out _ _ _).mono ?_; rintro e w5 ⟨rfl, rfl⟩))
      refine ⟨rfl, ?_⟩
      unfold FileT
      rw [HS2.out]
      exact ⟨rfl, (fun h => by cases h), hB3⟩
  · rw [if_neg hzz] at he
    subst he
    have HS2 : Hid (r = (d, zz)) := by rw [Hid, HR.out, if_neg hzz]
    simp only
    refine ⟨rfl, ?_⟩
    unfold FileT
    rw [HS2.out]
    exact ⟨(if_neg hzz).symm, (fun h => absurd h hzz), hB3⟩
theorem TrAt.not_node {W : World} {T root N n : Nat} {g : GrP} {nd : NodeP} (h : TrAt W T root N g) (hn : g n = some nd) : n ≠ T := fun e => h.out (.inl (by rw [← e, hn]; rfl))
theorem TrAt.set_bytes {W : World} {T root N n k c : Nat} {g : GrP} {nd : NodeP} {A : Option Addr} {bs : List UInt8} (h : TrAt W T root N g) (hn : g n = some nd) (hl : bs.length = k) (hkc : k ≤ c) (hc : c ≤ maxLen) (hr : RowAt W A (bs.map encB)) (hA : 0 < k → ∀ b off, A = some ⟨b, off, none⟩ → b ≠ n) (hP : PlainA A) (hk : k ≤ 448) :
    TrAt (W.setCell ⟨n, 1, none⟩ (.slice A k c)) T root N (updG g n { nd with bytes := bs }) :=
  ⟨(World.cell?_setCell_other _ _ _ _ (by intro e; injection e with e; exact h.not_node hn e)).trans h.tc, h.nodes.set_bytes hn hl hkc hc hr hA hP, h.inj.upd hn rfl, updG_is _ h.rt, fun e => h.out (inG_upd (nd' := { nd with bytes := bs }) hn rfl e), h.few.upd (Nat.le_refl _) (fun m D hm => h.few.1 n nd m D hn hm) ⟨by show bs.length ≤ 448; omega, (h.few.2 n nd hn).2⟩⟩
theorem TrAt.set_links {W : World} {T root N n l : Nat} {g : GrP} {nd : NodeP} (h : TrAt W T root N g) (hn : g n = some nd) (hl : l ≤ 200) :
    TrAt (W.setCell ⟨n, 2, none⟩ (.int .i64 l)) T root N (updG g n { nd with links := l }) :=
  ⟨(World.cell?_setCell_other _ _ _ _ (by intro e; injection e with e; exact h.not_node hn e)).trans h.tc, h.nodes.set_links hn, h.inj.upd hn rfl, updG_is _ h.rt, fun e => h.out (inG_upd (nd' := { nd with links := l }) hn rfl e), h.few.upd (Nat.le_refl _) (fun m D hm => h.few.1 n nd m D hn hm) ⟨(h.few.2 n nd hn).1, hl⟩⟩
theorem Small.more {g : GrP} {N M : Nat} (h : Small g N) (hN : N ≤ M) : Small g M := ⟨fun n nd m D h1 h2 => Nat.le_trans (h.1 n nd m D h1 h2) hN, h.2⟩
theorem TrAt.more {W : World} {T root N M : Nat} {g : GrP} (h : TrAt W T root N g) (hN : N ≤ M) : TrAt W T root M g := ⟨h.tc, h.nodes, h.inj, h.rt, h.out, h.few.more hN⟩
/-- Put's error. -/
def putE (g : GrP) (root : Nat) (s : List UInt8) (k : Nat) : Int := if (fileE g root s).2 ≠ 0 then ((fileE g root s).2 : Nat) else if 448 < k then 190 else 0
def PutG (g : GrP) (root : Nat) (s : List UInt8) (bs : List UInt8) (c : Int) (g' : GrP) : Prop :=
  c = putE g root s bs.length ∧ (c ≠ 0 → g' = g) ∧ (c = 0 → ∃ n nd, fileE g root s = (n, 0) ∧ g n = some nd ∧ nd.kids = none ∧ g' = updG g n { nd with bytes := bs })
set_option maxRecDepth 100000 in
set_option maxHeartbeats 8000000 in
theorem put1_any (T root N Bt Bs Bb : Nat) (g : GrP) (s : ByteArray) (A : Option Addr) (k c : Nat) (bs : List UInt8) (W : World) (hs : s.size < 4294967281) (h : TrAt W T root N g) (hz : (readP (bytesOf s)).1 = 0) (hl : bs.length = k) (hk : k ≤ 100000) (hP : PlainA A) (hrow : RowAt W A (bs.map encB))
    (c0 : W.cell? ⟨Bt, 0, none⟩ = some (.pointer (some ⟨T, 0, none⟩))) (c1 : W.cell? ⟨Bs, 0, none⟩ = some (.string s)) (c2 : W.cell? ⟨Bb, 0, none⟩ = some (.slice A k c)) :
    Calls Tryz.prog 179 #[.pointer (some ⟨Bt, 0, none⟩), .pointer (some ⟨Bs, 0, none⟩), .pointer (some ⟨Bb, 0, none⟩)] W (ChangeT T root N g (PutG g root (bytesOf s) bs) W) := by
  have HM := Lib.hid tmust_any
  have b2 := World.block_lt_of_cell? W ⟨Bb, 0, none⟩ c2
  have HF := Lib.hid (tfile_any g T root s W hs h.nodes h.rt h.tc hz)
  unfold FileT at HF
  have HE : Hid (putE g root (bytesOf s) k = if (fileE g root (bytesOf s)).2 ≠ 0 then (((fileE g root (bytesOf s)).2 : Nat) : Int) else (if 448 < k then (190 : Int) else 0)) := rfl
  rcases hfr : fileE g root (bytesOf s) with ⟨n, z⟩
  rw [hfr] at HF HE
  have HFR := Lib.hid hfr
  simp only at HF
  have HTR := Lib.hid h
  have HROW := Lib.hid hrow
  clear h hfr hrow
  by_cases hz2 : z = 0
  · subst hz2
    simp only [if_true] at HF
    have HE2 : Hid (putE g root (bytesOf s) k = if 448 < k then (190 : Int) else 0) := by rw [Hid, HE.out]; exact if_neg (fun h => h rfl)
    go_enter Tryz.func179, Tryz.ntmps179
    go_wp2_with (first
      | (go_at_call 141; refine HF.out.mono ?_; rintro e w4 ⟨rfl, hk4, hb4⟩; have HK4 := Lib.hid hk4; clear hk4; have d2 := (hb4.cell (p := ⟨Bb, 0, none⟩) b2).trans c2))
    have hC := cut_any A k c k bs w4 hl hk hP (HROW.out.below hb4)
    unfold CutR at hC
    obtain ⟨nd, hg, hkn⟩ := HK4.out trivial
    have HGN : Hid (g n = some nd ∧ nd.kids = none) := ⟨hg, hkn⟩
    have hT4 := HTR.out.below hb4
    by_cases hbig : 448 < k
    · have hq : cutG k k = 190 := by unfold cutG; rw [if_neg (by omega), if_pos (.inl hbig)]
      rw [hq] at hC
      have hC2 : Calls Tryz.prog 109 #[.slice A k c, .int .i64 k] w4 fun e W' => e = .returned (.tuple #[.slice none 0 0, .int .i64 190]) ∧ Below w4.heap.size w4 W' := by
        refine hC.mono ?_
        rintro e w' ⟨he, hb⟩
        rw [if_neg (by decide)] at he
        exact ⟨he, hb⟩
      refine hC2.mono ?_
      rintro e w5 ⟨rfl, hb5⟩
      have HZ : Hid (ChangeT T root N g (PutG g root (bytesOf s) bs) W (.panicked [errE 190]) w5) :=
        ⟨190, g, rfl, Turn.same HTR.out (Nat.le_succ _) (hb4.trans (hb5.mono hb4.size)), by rw [hl, HE2.out, if_pos hbig], fun _ => rfl, fun h => by cases h⟩
      clear hC hC2 hg hkn hT4 HK4 hb4 hb5 d2
      go_wp2_with (first
        | (go_at_call 130; refine (HM.out _ _ _).mono ?_; rintro e w6 ⟨rfl, rfl⟩))
      exact ⟨rfl, HZ.out⟩
    · have hq : cutG k k = 0 := by unfold cutG; rw [if_neg (by omega), if_neg (by omega)]
      rw [hq] at hC
      have hC2 : Calls Tryz.prog 109 #[.slice A k c, .int .i64 k] w4 fun e W' => (∃ A', e = .returned (.tuple #[.slice A' k k, .int .i64 0]) ∧ RowAt W' A' (bs.map encB) ∧ FreshA w4.heap.size A') ∧ Below w4.heap.size w4 W' := by
        refine hC.mono ?_
        rintro e w' ⟨he, hb⟩
        rw [if_pos rfl, Int.toNat_natCast] at he
        obtain ⟨A', h1, h2, h3⟩ := he
        have e1 : (extP bs k).take k = bs := by
          unfold extP
          rw [show k - bs.length = 0 from by omega, List.replicate_zero, List.append_nil, ← hl]
          exact List.take_length
        rw [e1] at h2
        exact ⟨⟨A', h1, h2, h3⟩, hb⟩
      refine hC2.mono ?_
      rintro e w5 ⟨⟨A', rfl, hr5, hf5⟩, hb5⟩
      have hT5 := hT4.below hb5
      have hN5 := hT5.nodes.node n nd hg
      obtain ⟨A0, k0, cc0, x1, _⟩ := hN5.byt
      have x2 := hN5.frz 1
      have hnl := hT4.nodes.lt (.inl (by rw [hg]; rfl))
      have hnW := HTR.out.nodes.lt (.inl (by rw [hg]; rfl) : inG g n)
      have HZ : Hid (ChangeT T root N g (PutG g root (bytesOf s) bs) W (.returned (.tuple #[])) (w5.setCell ⟨n, 1, none⟩ (.slice A' k k))) :=
        ⟨0, _, rfl, ⟨(hT5.set_bytes hg hl (Nat.le_refl _) (by unfold maxLen; omega) hr5 (fun _ b off e => by
            rcases hf5 with e2 | ⟨gg, h1, e2⟩
            · rw [e] at e2; cases e2
            · rw [e] at e2; cases e2; omega) hf5.plain (by omega)).more (Nat.le_succ _), (Kept.of_below (hb4.trans (hb5.mono hb4.size))).set (.inl (.inl (by rw [hg]; rfl))) _, fun b hb => .inl (inG_upd (nd' := { nd with bytes := bs }) hg rfl hb)⟩,
          by rw [hl, HE2.out, if_neg hbig], fun h => absurd rfl h, fun _ => ⟨n, nd, HFR.out, hg, hkn, rfl⟩⟩
      clear hC hC2 hg hkn hT4 HK4 hb4 hb5 d2 hr5 hf5 hT5 hN5
      go_wp2_with (first
        | (go_at_call 130; refine (HM.out _ _ _).mono ?_; rintro e w6 ⟨rfl, rfl⟩))
      go_end0
      exact HZ.out
  · rw [if_neg hz2] at HF
    have hz3 : ((z : Nat) : Int) ≠ 0 := by omega
    have HE2 : Hid (putE g root (bytesOf s) k = (z : Nat)) := by rw [Hid, HE.out]; exact if_pos hz2
    go_enter Tryz.func179, Tryz.ntmps179
    go_wp2_with (first
      | (go_at_call 141; refine HF.out.mono ?_; rintro e w4 ⟨rfl, hk4, hb4⟩; have HK4 := Lib.hid hk4; clear hk4))
    have HZ : Hid (ChangeT T root N g (PutG g root (bytesOf s) bs) W (.panicked [errE (z : Nat)]) w4) :=
      ⟨z, g, (unitOr_err hz3).symm, Turn.same HTR.out (Nat.le_succ _) hb4, by rw [hl]; exact HE2.out.symm, fun _ => rfl, fun h => absurd h hz3⟩
    exact ⟨rfl, HZ.out⟩
end Go.Proofs.YtibpagmpdgflmaaGreatDoor

namespace Go.Proofs.YtibpagmpdgflmaaGreatDoor
open Go.RowKit Go.Maps Go.WideMaps
attribute [local go_sem] Oper.semAt_some

set_option maxRecDepth 100000 in
set_option maxHeartbeats 8000000 in
theorem tputb_any (T root N : Nat) (g : GrP) (s : ByteArray) (A : Option Addr) (k cc : Nat) (bs : List UInt8) (W : World) (hs : s.size < 4294967281) (h : TrAt W T root N g) (hl : bs.length = k) (hk : k ≤ 100000) (hP : PlainA A) (hrow : RowAt W A (bs.map encB)) :
    Calls Tryz.prog 153 #[.pointer (some ⟨T, 0, none⟩), .string s, .slice A k cc] W (ToldT T root N g (PathT (bytesOf s) g (PutG g root (bytesOf s) bs)) W) := by
  have hmf : ∀ (fn : Fn) (first cap : Array Value) (w : World), (Instr.makeFunc fn first cap).run Tryz.prog w = .ok (.func fn first cap) w := fun _ _ _ _ => rfl
  obtain ⟨w1, hw1⟩ : ∃ w1, W.alloc (.cells #[.pointer (some ⟨T, 0, none⟩)] 55) = w1 := ⟨_, rfl⟩
  obtain ⟨w2, hw2⟩ : ∃ w2, w1.alloc (.cells #[.string s] 9) = w2 := ⟨_, rfl⟩
  obtain ⟨w3, hw3⟩ : ∃ w3, w2.alloc (.cells #[.slice A k cc] 25) = w3 := ⟨_, rfl⟩
  obtain ⟨w4, hw4⟩ : ∃ w4, w3.alloc (.cells #[.string s] 9) = w4 := ⟨_, rfl⟩
  have s1 : w1.heap.size = W.heap.size + 1 := by rw [← hw1]; simp
  have s2 : w2.heap.size = W.heap.size + 2 := by rw [← hw2]; simp; omega
  have s3 : w3.heap.size = W.heap.size + 3 := by rw [← hw3]; simp; omega
  have b1 : Below W.heap.size W w1 := by rw [← hw1]; exact (Below.refl _ _).alloc (Nat.le_refl _) _
  have b2 : Below w1.heap.size w1 w2 := by rw [← hw2]; exact (Below.refl _ _).alloc (Nat.le_refl _) _
  have b3 : Below w2.heap.size w2 w3 := by rw [← hw3]; exact (Below.refl _ _).alloc (Nat.le_refl _) _
  have b4 : Below w3.heap.size w3 w4 := by rw [← hw4]; exact (Below.refl _ _).alloc (Nat.le_refl _) _
  have hB : Below W.heap.size W w4 := (((b1.trans (b2.mono (by omega))).trans (b3.mono (by omega))).trans (b4.mono (by omega)))
  have p1 : w1.cell? ⟨W.heap.size, 0, none⟩ = some (.pointer (some ⟨T, 0, none⟩)) := by rw [← hw1]; exact cell_new _ _ _ 0 _ rfl
  have p2 : w2.cell? ⟨w1.heap.size, 0, none⟩ = some (.string s) := by rw [← hw2]; exact cell_new _ _ _ 0 _ rfl
  have p3 : w3.cell? ⟨w2.heap.size, 0, none⟩ = some (.slice A k cc) := by rw [← hw3]; exact cell_new _ _ _ 0 _ rfl
  have pp0 : w4.cell? ⟨w3.heap.size, 0, none⟩ = some (.string s) := by rw [← hw4]; exact cell_new _ _ _ 0 _ rfl
  have q1 : w3.cell? ⟨W.heap.size, 0, none⟩ = some (.pointer (some ⟨T, 0, none⟩)) := ((b3.cell (p := ⟨W.heap.size, 0, none⟩) (by show W.heap.size < _; omega)).trans ((b2.cell (p := ⟨W.heap.size, 0, none⟩) (by show W.heap.size < _; omega)).trans p1))
  have r1 : w4.cell? ⟨W.heap.size, 0, none⟩ = some (.pointer (some ⟨T, 0, none⟩)) := (b4.cell (p := ⟨W.heap.size, 0, none⟩) (by show W.heap.size < _; omega)).trans q1
  have q2 : w3.cell? ⟨w1.heap.size, 0, none⟩ = some (.string s) := ((b3.cell (p := ⟨w1.heap.size, 0, none⟩) (by show w1.heap.size < _; omega)).trans p2)
  have r2 : w4.cell? ⟨w1.heap.size, 0, none⟩ = some (.string s) := (b4.cell (p := ⟨w1.heap.size, 0, none⟩) (by show w1.heap.size < _; omega)).trans q2
  have q3 : w3.cell? ⟨w2.heap.size, 0, none⟩ = some (.slice A k cc) := p3
  have r3 : w4.cell? ⟨w2.heap.size, 0, none⟩ = some (.slice A k cc) := (b4.cell (p := ⟨w2.heap.size, 0, none⟩) (by show w2.heap.size < _; omega)).trans q3
  have ht := h.below hB
  have HROW := Lib.hid hrow
  have HBW := Lib.hid hB
  clear hrow
  have HDN := Lib.hid (tdone_tree 179 #[.pointer (some ⟨W.heap.size, 0, none⟩), .pointer (some ⟨w1.heap.size, 0, none⟩), .pointer (some ⟨w2.heap.size, 0, none⟩)] T root N g (some ⟨w3.heap.size, 0, none⟩) 1 1 (readP (bytesOf s)).1 w4 (PathT (bytesOf s) g (PutG g root (bytesOf s) bs)) ht
    (fun w hb => read_unit hs (ht.below hb).tc ((hb.cell (p := ⟨w3.heap.size, 0, none⟩) (World.block_lt_of_cell? w4 ⟨w3.heap.size, 0, none⟩ pp0)).trans pp0))
    (enters_of Tryz.func179 (by kernel_rfl) rfl _)
    (fun hz w hb ht => by
      refine (put1_any T root N W.heap.size w1.heap.size w2.heap.size g s A k cc bs w hs ht hz hl hk hP (HROW.out.below (HBW.out.trans (hb.mono HBW.out.size))) ((hb.cell (p := ⟨W.heap.size, 0, none⟩) (World.block_lt_of_cell? w4 ⟨W.heap.size, 0, none⟩ r1)).trans r1) ((hb.cell (p := ⟨w1.heap.size, 0, none⟩) (World.block_lt_of_cell? w4 ⟨w1.heap.size, 0, none⟩ r2)).trans r2) ((hb.cell (p := ⟨w2.heap.size, 0, none⟩) (World.block_lt_of_cell? w4 ⟨w2.heap.size, 0, none⟩ r3)).trans r3)).mono ?_
      rintro e w' ⟨c, g', he, h1, h2⟩
      exact ⟨c, g', he, h1, PathT.good hz h2⟩)
    (fun hz => PathT.bad hz))
  have HB := Lib.hid hB
  clear s1 s2 s3 b1 b2 b3 b4 r1 r2 r3 p1 p2 pp0 hB ht h
  go_enter Tryz.func153, Tryz.ntmps153
  go_wp2_with (first
    | (go_at_call 136; refine HDN.out.mono ?_; rintro e w9 ⟨c, g', rfl, ht5, hr5⟩; have HT5 := Lib.hid ht5; have HR5 := Lib.hid hr5; clear ht5 hr5))
  go_ret
  exact ⟨c, g', rfl, (HT5.out.front HB.out).base_ HB.out.size, HR5.out⟩
/-- .. of two texts that must be paths. -/
def Path2T (s d : List UInt8) (g : GrP) (Rel : Int → GrP → Prop) (c : Int) (g' : GrP) : Prop := if read2 s d = 0 then Rel c g' else c = read2 s d ∧ g' = g
theorem Path2T.good {s d : List UInt8} {g g' : GrP} {Rel : Int → GrP → Prop} {c : Int} (hz : read2 s d = 0) (h : Rel c g') : Path2T s d g Rel c g' := by unfold Path2T; rw [if_pos hz]; exact h
theorem Path2T.bad {s d : List UInt8} {g : GrP} {Rel : Int → GrP → Prop} (hz : read2 s d ≠ 0) : Path2T s d g Rel (read2 s d) g := by unfold Path2T; rw [if_neg hz]; exact ⟨rfl, rfl⟩
theorem read2_zero {s d : List UInt8} (h : read2 s d = 0) : (readP s).1 = 0 ∧ (readP d).1 = 0 := by
  unfold read2 at h
  split at h
  · rename_i h1; exact ⟨h1, h⟩
  · rename_i h1; exact absurd h h1
/-- Link's error. -/
def linkE (g : GrP) (root : Nat) (s d : List UInt8) : Int :=
  if (fileE g root s).2 ≠ 0 then (((fileE g root s).2 : Nat) : Int) else if (freshE g root d).2 ≠ 0 then (((freshE g root d).2 : Nat) : Int) else
    match g (fileE g root s).1 with | some nd => if 200 ≤ nd.links then 207 else 0 | none => 0
def LinkG (g : GrP) (root : Nat) (s d : List UInt8) (c : Int) (g' : GrP) : Prop :=
  c = linkE g root s d ∧ (c ≠ 0 → g' = g) ∧ (c = 0 → ∃ n nn p nd m D, fileE g root s = (n, 0) ∧ freshE g root d = (p, 0) ∧ g n = some nn ∧ nn.kids = none ∧ g p = some nd ∧ nd.kids = some (m, D) ∧ Maps.has D (.string (lastL (readP d).2)) = false ∧
    g' = updG (updG g p { nd with kids := some (m, D.put (.string (lastL (readP d).2)) (.held (.pointer (some ⟨n, 0, none⟩)))) }) n { nn with links := nn.links + 1 })
set_option maxRecDepth 100000 in
set_option maxHeartbeats 8000000 in
theorem link1_any (T root N Bt Bs Bd : Nat) (g : GrP) (s d : ByteArray) (W : World) (hs : s.size < 4294967281) (hs2 : d.size < 4294967281) (h : TrAt W T root N g) (hN : N ≤ 1000000) (hz : (readP (bytesOf s)).1 = 0) (hzd : (readP (bytesOf d)).1 = 0)
    (c0 : W.cell? ⟨Bt, 0, none⟩ = some (.pointer (some ⟨T, 0, none⟩))) (c1 : W.cell? ⟨Bs, 0, none⟩ = some (.string s)) (c2 : W.cell? ⟨Bd, 0, none⟩ = some (.string d)) :
    Calls Tryz.prog 151 #[.pointer (some ⟨Bt, 0, none⟩), .pointer (some ⟨Bs, 0, none⟩), .pointer (some ⟨Bd, 0, none⟩)] W (ChangeT T root N g (LinkG g root (bytesOf s) (bytesOf d)) W) := by
  have HM := Lib.hid tmust_any
  have bb0 := World.block_lt_of_cell? W ⟨Bt, 0, none⟩ c0
  have bb2 := World.block_lt_of_cell? W ⟨Bd, 0, none⟩ c2
  have HF := Lib.hid (tfile_any g T root s W hs h.nodes h.rt h.tc hz)
  unfold FileT at HF
  have HFD := Lib.hid (fun w hg hT => tfresh_any g T root d w hs2 hg h.rt hT hzd)
  unfold FreshR at HFD
  have HE : Hid (linkE g root (bytesOf s) (bytesOf d) = if (fileE g root (bytesOf s)).2 ≠ 0 then (((fileE g root (bytesOf s)).2 : Nat) : Int) else if (freshE g root (bytesOf d)).2 ≠ 0 then (((freshE g root (bytesOf d)).2 : Nat) : Int) else
    match g (fileE g root (bytesOf s)).1 with | some nd => if 200 ≤ nd.links then (207 : Int) else 0 | none => 0) := rfl
  rcases hfr : fileE g root (bytesOf s) with ⟨n, z⟩
  rcases hfd : freshE g root (bytesOf d) with ⟨p, y⟩
  rw [hfr] at HF HE
  rw [hfd] at HFD HE
  have HFR := Lib.hid hfr
  have HFRD := Lib.hid hfd
  simp only at HF HFD
  have HTR := Lib.hid h
  clear h hfr hfd
  by_cases hz2 : z = 0
  · subst hz2
    simp only [if_true] at HF
    by_cases hy : y = 0
    · subst hy
      simp only [if_true] at HFD
      obtain ⟨x, hx⟩ : ∃ x, lastL (readP (bytesOf d)).2 = x := ⟨_, rfl⟩
      have hxl : x.length ≤ 100000 := by rw [← hx]; exact lastL_le _
      have HX := Lib.hid hx
      rw [hx] at HFD
      clear hx
      go_enter Tryz.func151, Tryz.ntmps151
      go_wp2_with (first
        | (go_at_call 141; refine HF.out.mono ?_; rintro e w4 ⟨rfl, hk4, hb4⟩; obtain ⟨nn, hgn, hkn⟩ := hk4 trivial; have HT4 := Lib.hid (HTR.out.below hb4); have HGN := Lib.hid hgn; have HKN := Lib.hid hkn; clear hk4 hgn hkn; have d2 := (hb4.cell (p := ⟨Bd, 0, none⟩) bb2).trans c2; have d0 := (hb4.cell (p := ⟨Bt, 0, none⟩) bb0).trans c0; have HB4 := Lib.hid hb4; clear hb4)
        | (go_at_call 138; refine (HFD.out w4 HT4.out.nodes HT4.out.tc).mono ?_; rintro e w5 ⟨rfl, hk5, hb5⟩; have HK5 := Lib.hid hk5; clear hk5; have hb5' : Below w4.heap.size w4 (w5.alloc (.cells #[.pointer (some ⟨p, 0, none⟩), .string (ofBytes x)] 188)) := (hb5.trans ((Below.refl _ _).alloc hb5.size _)); have HT6 := Lib.hid (HT4.out.below hb5'); have HB6 := Lib.hid hb5'; have lk := (HT6.out.nodes.node n nn HGN.out).lnk; have lf := (HT6.out.nodes.node n nn HGN.out).frz 2; have sp0 : (w5.alloc (.cells #[.pointer (some ⟨p, 0, none⟩), .string (ofBytes x)] 188)).cell? ⟨w5.heap.size, 0, none⟩ = some (.pointer (some ⟨p, 0, none⟩)) := (cell_new _ _ _ 0 _ rfl); have sp1 : (w5.alloc (.cells #[.pointer (some ⟨p, 0, none⟩), .string (ofBytes x)] 188)).cell? ⟨w5.heap.size, 1, none⟩ = some (.string (ofBytes x)) := (cell_new _ _ _ 1 _ rfl); clear hb5 hb5'))
      obtain ⟨nd, m, D, hg, hk, hh⟩ := HK5.out trivial
      have hlow := (HT4.out.few.2 n nn HGN.out).2
      have HE2 : Hid (linkE g root (bytesOf s) (bytesOf d) = if 200 ≤ nn.links then (207 : Int) else 0) := by
        rw [Hid, HE.out]
        refine (if_neg (fun h => h rfl)).trans ((if_neg (fun h => h rfl)).trans ?_)
        show (match g n with | some nd => if 200 ≤ nd.links then (207 : Int) else 0 | none => 0) = _
        rw [HGN.out]
      generalize (w5.alloc (.cells #[.pointer (some ⟨p, 0, none⟩), .string (ofBytes x)] 188)) = w6 at *
      by_cases hl : nn.links < 200
      · have hd : decide ((nn.links : Int) < 200) = true := decide_eq_true (by omega)
        rw [hd]
        refine (HM.out _ _ _).mono ?_
        rintro e w7 ⟨rfl, rfl⟩
        go_wp2_with fail
        refine (tput_any p m n nd D x w7 (HT6.out.nodes.node p nd hg) hk hxl (Nat.le_trans (HTR.out.few.1 p nd m D hg hk) hN)).mono ?_
        rintro e w8 ⟨rfl, W1, hb8, hg8, ho8⟩
        have hT1 := HT6.out.below hb8
        have hT8 := hT1.put hg hk (b := n) (by rw [HGN.out]; rfl) ho8 hg8
        have hne : n ≠ p := fun e => by
          have h1 : g n = some nn := HGN.out
          rw [e, hg] at h1
          injection h1 with h1
          have h2 : nn.kids = none := HKN.out
          rw [← h1, hk] at h2
          cases h2
        have hgn8 : (updG g p { nd with kids := some (m, D.put (.string x) (.held (.pointer (some ⟨n, 0, none⟩)))) }) n = some nn := (updG_other hne).trans HGN.out
        have l8 := (hT8.nodes.node n nn hgn8).lnk
        have f8 := (hT8.nodes.node n nn hgn8).frz 2
        have hT9 := hT8.set_links (l := nn.links + 1) hgn8 (by omega)
        have e9 : ((nn.links : Int) + 1) = ((nn.links + 1 : Nat) : Int) := by omega
        have HALL : Hid (ChangeT T root N g (LinkG g root (bytesOf s) (bytesOf d)) W (.returned (.tuple #[])) (w8.setCell ⟨n, 2, none⟩ (.int .i64 ((nn.links + 1 : Nat) : Int)))) := by
          refine ⟨0, _, rfl, ⟨hT9, (((Kept.of_below (HB4.out.trans (HB6.out.mono HB4.out.size))).andBelow hb8).grown hg8 (.inl (inG_in hg hk))).set (.inl (.inl (by rw [HGN.out]; rfl))) _, fun b hb => .inl ?_⟩, by rw [HE2.out, if_neg (by omega)], fun h => absurd rfl h, fun _ => ⟨n, nn, p, nd, m, D, HFR.out, HFRD.out, HGN.out, HKN.out, hg, hk, by rw [HX.out]; exact hh, by rw [HX.out]⟩⟩
          exact inG_upd (nd' := { nd with kids := some (m, D.put (.string x) (.held (.pointer (some ⟨n, 0, none⟩)))) }) hg (by rw [hk]; rfl) (inG_upd (nd' := { nn with links := nn.links + 1 }) hgn8 rfl hb)
        clear hb8 hg8 ho8 hg hk hh hT1 hT8 hT9 hgn8
        rw [← e9] at HALL
        clear HE2 HE e9 hd hl lk lf
        generalize nn.links = q at *
        go_wp2_with fail
        go_end0
        exact HALL.out
      · have hd : decide ((nn.links : Int) < 200) = false := decide_eq_false (by omega)
        rw [hd]
        refine (HM.out _ _ _).mono ?_
        rintro e w7 ⟨rfl, rfl⟩
        have HZ : Hid (ChangeT T root N g (LinkG g root (bytesOf s) (bytesOf d)) W (.panicked [errE 207]) w7) :=
          ⟨207, g, rfl, Turn.same HTR.out (Nat.le_succ _) (HB4.out.trans (HB6.out.mono HB4.out.size)), by rw [HE2.out, if_pos (by omega)], fun _ => rfl, fun h => by cases h⟩
        exact ⟨rfl, HZ.out⟩
    · rw [if_neg hy] at HFD
      have hy3 : ((y : Nat) : Int) ≠ 0 := by omega
      have HE2 : Hid (linkE g root (bytesOf s) (bytesOf d) = (y : Nat)) := by
        rw [Hid, HE.out]
        exact (if_neg (fun h => h rfl)).trans (if_pos hy)
      go_enter Tryz.func151, Tryz.ntmps151
      go_wp2_with (first
        | (go_at_call 141; refine HF.out.mono ?_; rintro e w4 ⟨rfl, hk4, hb4⟩; have HT4 := Lib.hid (HTR.out.below hb4); have d2 := (hb4.cell (p := ⟨Bd, 0, none⟩) bb2).trans c2; have d0 := (hb4.cell (p := ⟨Bt, 0, none⟩) bb0).trans c0; have HB4 := Lib.hid hb4; clear hb4 hk4)
        | (go_at_call 138; refine (HFD.out w4 HT4.out.nodes HT4.out.tc).mono ?_; rintro e w5 ⟨rfl, hk5, hb5⟩; have HB5 := Lib.hid hb5; clear hb5 hk5))
      have HZ : Hid (ChangeT T root N g (LinkG g root (bytesOf s) (bytesOf d)) W (.panicked [errE (y : Nat)]) w5) :=
        ⟨y, g, (unitOr_err hy3).symm, Turn.same HTR.out (Nat.le_succ _) (HB4.out.trans (HB5.out.mono HB4.out.size)), HE2.out.symm, fun _ => rfl, fun h => absurd h hy3⟩
      exact ⟨rfl, HZ.out⟩
  · rw [if_neg hz2] at HF
    have hz3 : ((z : Nat) : Int) ≠ 0 := by omega
    have HE2 : Hid (linkE g root (bytesOf s) (bytesOf d) = (z : Nat)) := by rw [Hid, HE.out]; exact if_pos hz2
    go_enter Tryz.func151, Tryz.ntmps151
    go_wp2_with (first
      | (go_at_call 141; refine HF.out.mono ?_; rintro e w4 ⟨rfl, hk4, hb4⟩; have HK4 := Lib.hid hk4; clear hk4))
    have HZ : Hid (ChangeT T root N g (LinkG g root (bytesOf s) (bytesOf d)) W (.panicked [errE (z : Nat)]) w4) :=
      ⟨z, g, (unitOr_err hz3).symm, Turn.same HTR.out (Nat.le_succ _) hb4, HE2.out.symm, fun _ => rfl, fun h => absurd h hz3⟩
    exact ⟨rfl, HZ.out⟩

set_option maxRecDepth 100000 in
set_option maxHeartbeats 8000000 in
theorem tlink_any (T root N : Nat) (g : GrP) (s d : ByteArray) (W : World) (hs : s.size < 4294967281) (hs2 : d.size < 4294967281) (h : TrAt W T root N g) (hN : N ≤ 1000000) :
    Calls Tryz.prog 102 #[.pointer (some ⟨T, 0, none⟩), .string s, .string d] W (ToldT T root N g (Path2T (bytesOf s) (bytesOf d) g (LinkG g root (bytesOf s) (bytesOf d))) W) := by
  have hmf : ∀ (fn : Fn) (first cap : Array Value) (w : World), (Instr.makeFunc fn first cap).run Tryz.prog w = .ok (.func fn first cap) w := fun _ _ _ _ => rfl
  obtain ⟨w1, hw1⟩ : ∃ w1, W.alloc (.cells #[.pointer (some ⟨T, 0, none⟩)] 55) = w1 := ⟨_, rfl⟩
  obtain ⟨w2, hw2⟩ : ∃ w2, w1.alloc (.cells #[.string s] 9) = w2 := ⟨_, rfl⟩
  obtain ⟨w3, hw3⟩ : ∃ w3, w2.alloc (.cells #[.string d] 9) = w3 := ⟨_, rfl⟩
  obtain ⟨w4, hw4⟩ : ∃ w4, w3.alloc (.cells #[.string s, .string d] 9) = w4 := ⟨_, rfl⟩
  have s1 : w1.heap.size = W.heap.size + 1 := by rw [← hw1]; simp
  have s2 : w2.heap.size = W.heap.size + 2 := by rw [← hw2]; simp; omega
  have s3 : w3.heap.size = W.heap.size + 3 := by rw [← hw3]; simp; omega
  have b1 : Below W.heap.size W w1 := by rw [← hw1]; exact (Below.refl _ _).alloc (Nat.le_refl _) _
  have b2 : Below w1.heap.size w1 w2 := by rw [← hw2]; exact (Below.refl _ _).alloc (Nat.le_refl _) _
  have b3 : Below w2.heap.size w2 w3 := by rw [← hw3]; exact (Below.refl _ _).alloc (Nat.le_refl _) _
  have b4 : Below w3.heap.size w3 w4 := by rw [← hw4]; exact (Below.refl _ _).alloc (Nat.le_refl _) _
  have hB : Below W.heap.size W w4 := (((b1.trans (b2.mono (by omega))).trans (b3.mono (by omega))).trans (b4.mono (by omega)))
  have p1 : w1.cell? ⟨W.heap.size, 0, none⟩ = some (.pointer (some ⟨T, 0, none⟩)) := by rw [← hw1]; exact cell_new _ _ _ 0 _ rfl
  have p2 : w2.cell? ⟨w1.heap.size, 0, none⟩ = some (.string s) := by rw [← hw2]; exact cell_new _ _ _ 0 _ rfl
  have p3 : w3.cell? ⟨w2.heap.size, 0, none⟩ = some (.string d) := by rw [← hw3]; exact cell_new _ _ _ 0 _ rfl
  have pp0 : w4.cell? ⟨w3.heap.size, 0, none⟩ = some (.string s) := by rw [← hw4]; exact cell_new _ _ _ 0 _ rfl
  have pp1 : w4.cell? ⟨w3.heap.size, 1, none⟩ = some (.string d) := by rw [← hw4]; exact cell_new _ _ _ 1 _ rfl
  have q1 : w3.cell? ⟨W.heap.size, 0, none⟩ = some (.pointer (some ⟨T, 0, none⟩)) := ((b3.cell (p := ⟨W.heap.size, 0, none⟩) (by show W.heap.size < _; omega)).trans ((b2.cell (p := ⟨W.heap.size, 0, none⟩) (by show W.heap.size < _; omega)).trans p1))
  have r1 : w4.cell? ⟨W.heap.size, 0, none⟩ = some (.pointer (some ⟨T, 0, none⟩)) := (b4.cell (p := ⟨W.heap.size, 0, none⟩) (by show W.heap.size < _; omega)).trans q1
  have q2 : w3.cell? ⟨w1.heap.size, 0, none⟩ = some (.string s) := ((b3.cell (p := ⟨w1.heap.size, 0, none⟩) (by show w1.heap.size < _; omega)).trans p2)
  have r2 : w4.cell? ⟨w1.heap.size, 0, none⟩ = some (.string s) := (b4.cell (p := ⟨w1.heap.size, 0, none⟩) (by show w1.heap.size < _; omega)).trans q2
  have q3 : w3.cell? ⟨w2.heap.size, 0, none⟩ = some (.string d) := p3
  have r3 : w4.cell? ⟨w2.heap.size, 0, none⟩ = some (.string d) := (b4.cell (p := ⟨w2.heap.size, 0, none⟩) (by show w2.heap.size < _; omega)).trans q3
  have ht := h.below hB
  have HDN := Lib.hid (tdone_tree 151 #[.pointer (some ⟨W.heap.size, 0, none⟩), .pointer (some ⟨w1.heap.size, 0, none⟩), .pointer (some ⟨w2.heap.size, 0, none⟩)] T root N g (some ⟨w3.heap.size, 0, none⟩) 2 2 (read2 (bytesOf s) (bytesOf d)) w4 (Path2T (bytesOf s) (bytesOf d) g (LinkG g root (bytesOf s) (bytesOf d))) ht
    (fun w hb => tread2_any T root w3.heap.size s d w hs hs2 (ht.below hb).tc ((hb.cell (p := ⟨w3.heap.size, 0, none⟩) (World.block_lt_of_cell? w4 ⟨w3.heap.size, 0, none⟩ pp0)).trans pp0) ((hb.cell (p := ⟨w3.heap.size, 1, none⟩) (World.block_lt_of_cell? w4 ⟨w3.heap.size, 1, none⟩ pp1)).trans pp1))
    (enters_of Tryz.func151 (by kernel_rfl) rfl _)
    (fun hz w hb ht => by
      refine (link1_any T root N W.heap.size w1.heap.size w2.heap.size g s d w hs hs2 ht hN (read2_zero hz).1 (read2_zero hz).2 ((hb.cell (p := ⟨W.heap.size, 0, none⟩) (World.block_lt_of_cell? w4 ⟨W.heap.size, 0, none⟩ r1)).trans r1) ((hb.cell (p := ⟨w1.heap.size, 0, none⟩) (World.block_lt_of_cell? w4 ⟨w1.heap.size, 0, none⟩ r2)).trans r2) ((hb.cell (p := ⟨w2.heap.size, 0, none⟩) (World.block_lt_of_cell? w4 ⟨w2.heap.size, 0, none⟩ r3)).trans r3)).mono ?_
      rintro e w' ⟨c, g', he, h1, h2⟩
      exact ⟨c, g', he, h1, Path2T.good hz h2⟩)
    (fun hz => Path2T.bad hz))
  have HB := Lib.hid hB
  clear s1 s2 s3 b1 b2 b3 b4 r1 r2 r3 p1 p2 pp0 pp1 hB ht h
  go_enter Tryz.func102, Tryz.ntmps102
  go_wp2_with (first
    | (go_at_call 136; refine HDN.out.mono ?_; rintro e w9 ⟨c, g', rfl, ht5, hr5⟩; have HT5 := Lib.hid ht5; have HR5 := Lib.hid hr5; clear ht5 hr5))
  go_ret
  exact ⟨c, g', rfl, (HT5.out.front HB.out).base_ HB.out.size, HR5.out⟩
end Go.Proofs.YtibpagmpdgflmaaGreatDoor
