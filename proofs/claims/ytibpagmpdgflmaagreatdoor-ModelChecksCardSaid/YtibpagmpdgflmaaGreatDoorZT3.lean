/- A tree in memory; contracts of tree's must, dir, kind, none, split, walked. Contracts of tree's split, walked, kind. Contracts of tree's split, read. Conditions: none. -/
import Derived.Test.YtibpagmpdgflmaaGreatDoorZU1
import Derived.Test.YtibpagmpdgflmaaGreatDoorZP1
import Derived.Test.YtibpagmpdgflmaaGreatDoorZW1
import Derived.WalkSpells
import Derived.Test.YtibpagmpdgflmaaGreatDoorZC4
namespace Go.Proofs.YtibpagmpdgflmaaGreatDoor
open Go.RowKit Go.Maps Go.WideMaps

theorem Tryz.underlyingNames : Tryz.prog.underlying 110 = some (.map 9 108) := by kernel_rfl
theorem keyedS : Keyed Tryz.prog 9 := string_keyed (by kernel_rfl)
theorem zeroNode (w : World) : (zeroValue 108).run Tryz.prog w = .ok (.pointer none) w := by kernel_rfl
theorem keyS {s : ByteArray} (hs : s.size ≤ maxLen) : keyOf Tryz.prog 9 (.string s) = some (.string s.data.toList) := keyOf_string_mk (by kernel_rfl) hs
/-- A node: its names' block and what that holds, if it is a directory; its bytes; how many names it has. -/
structure NodeP where
  kids : Option (Nat × DataW Value)
  bytes : List UInt8
  links : Nat
/-- None, or whole cells. -/
def PlainA (A : Option Addr) : Prop := A = none ∨ ∃ b off, A = some ⟨b, off, none⟩
abbrev GrP := Nat → Option NodeP
def kidOf (D : DataW Value) (s : List UInt8) : Option Nat :=
  if Maps.has D (.string s) then (match D.atKey (.string s) .nil with
    | .held (.pointer (some a)) => some a.block
    | _ => none) else none
/-- A node in memory. -/
structure NodeAt (W : World) (n : Nat) (nd : NodeP) : Prop where
  lt : n < W.heap.size
  kidc : W.cell? ⟨n, 0, none⟩ = some (.map (nd.kids.map (·.1)))
  byt : ∃ A k c, W.cell? ⟨n, 1, none⟩ = some (.slice A k c) ∧ nd.bytes.length = k ∧ k ≤ c ∧ c ≤ maxLen ∧ RowAt W A (nd.bytes.map encB) ∧ (0 < k → ∀ b off, A = some ⟨b, off, none⟩ → b ≠ n) ∧ PlainA A
  lnk : W.cell? ⟨n, 2, none⟩ = some (.int .i64 nd.links)
  frz : ∀ i, W.frozen? ⟨n, i, none⟩ = false
  own : ∀ m D, nd.kids = some (m, D) → W.ownsMap Tryz.prog 9 heldV m (Maps.size D) D
/-- Nodes in memory, those of one tree. -/
structure GAt (W : World) (g : GrP) : Prop where
  node : ∀ n nd, g n = some nd → NodeAt W n nd
  kids : ∀ n nd m D s, g n = some nd → nd.kids = some (m, D) → Maps.has D (.string s) = true → ∃ b, (g b).isSome ∧ ∀ z, D.atKey (.string s) z = .held (.pointer (some ⟨b, 0, none⟩))
theorem NodeAt.below {W W' : World} {n : Nat} {nd : NodeP} (h : NodeAt W n nd) (hb : Below W.heap.size W W') : NodeAt W' n nd := by
  obtain ⟨A, k, c, h1, h2, h3, h4, h5, h6⟩ := h.byt
  refine ⟨Nat.lt_of_lt_of_le h.lt hb.size, (hb.cell (p := ⟨n, 0, none⟩) h.lt).trans h.kidc, ⟨A, k, c, (hb.cell (p := ⟨n, 1, none⟩) h.lt).trans h1, h2, h3, h4, h5.below hb, h6⟩, (hb.cell (p := ⟨n, 2, none⟩) h.lt).trans h.lnk, fun i => (hb.frozen (p := ⟨n, i, none⟩) h.lt).trans (h.frz i), fun m D hm => ?_⟩
  have ho := h.own m D hm
  obtain ⟨es, clock, hb', r⟩ := ho
  exact ⟨es, clock, (hb.block m (Array.getElem?_eq_some_iff.1 hb').1).trans hb', r⟩
theorem GAt.below {W W' : World} {g : GrP} (h : GAt W g) (hb : Below W.heap.size W W') : GAt W' g := ⟨fun n nd hn => (h.node n nd hn).below hb, h.kids⟩
/-- Where names lead from a node on; an error. -/
def walkG (g : GrP) : List (List UInt8) → Nat → Nat × Nat
  | [], n => (n, 0)
  | s :: l, n => match g n with
    | none => (n, 201)
    | some nd => match nd.kids with
      | none => (n, 201)
      | some (_, D) => match kidOf D s with
        | none => (n, 202)
        | some b => walkG g l b
theorem kidOf_some {W : World} {g : GrP} (h : GAt W g) {n m : Nat} {nd : NodeP} {D : DataW Value} {s : List UInt8} (hn : g n = some nd) (hk : nd.kids = some (m, D)) (hh : Maps.has D (.string s) = true) : ∃ b, kidOf D s = some b ∧ (g b).isSome ∧ ∀ z, D.atKey (.string s) z = .held (.pointer (some ⟨b, 0, none⟩)) := by
  obtain ⟨b, h1, h2⟩ := h.kids n nd m D s hn hk hh
  exact ⟨b, by unfold kidOf; rw [if_pos hh, h2], h1, h2⟩
theorem kidOf_none {D : DataW Value} {s : List UInt8} (hh : Maps.has D (.string s) = false) : kidOf D s = none := by
  unfold kidOf; rw [hh]; rfl

theorem tmust_any (b : Bool) (c : Int) (W : World) :
    Calls Tryz.prog 130 #[.bool b, .int .i64 c] W fun e W' => e = (if b then .returned (.tuple #[]) else .panicked [{ v := .iface 22 (.int .i64 c), recovered := false }]) ∧ W' = W := by
  cases b
  · go_enter Tryz.func130, Tryz.ntmps130
    go_wp2
    exact ⟨rfl, rfl, rfl⟩
  · go_enter Tryz.func130, Tryz.ntmps130
    go_wp2
    go_end0
    exact ⟨rfl, rfl⟩
theorem tdir_any (n : Nat) (nd : NodeP) (W : World) (h : NodeAt W n nd) :
    Calls Tryz.prog 113 #[.pointer (some ⟨n, 0, none⟩)] W fun e W' => e = .returned (.bool nd.kids.isSome) ∧ W' = W := by
  have c0 := h.kidc
  have qT : ∀ (w : World) (r : Option Nat), (binOp .neq 110 (.map r) (.map none)).run Tryz.prog w = .ok (.bool (!r.isNone)) w := fun w r => run_neq_map_nil w _ _ _ r Tryz.underlyingNames
  cases hk : nd.kids with
  | none =>
    rw [hk] at c0
    have c0' : W.cell? ⟨n, 0, none⟩ = some (.map none) := c0
    clear c0
    go_enter Tryz.func113, Tryz.ntmps113
    go_wp2
    go_ret
    exact ⟨rfl, rfl⟩
  | some p =>
    rw [hk] at c0
    have c0' : W.cell? ⟨n, 0, none⟩ = some (.map (some p.1)) := c0
    clear c0
    generalize p.1 = m at *
    go_enter Tryz.func113, Tryz.ntmps113
    go_wp2
    go_ret
    exact ⟨rfl, rfl⟩
theorem tnone_no (T root : Nat) (W : World) (h : W.cell? ⟨T, 0, none⟩ = some (.pointer (some ⟨root, 0, none⟩))) :
    Calls Tryz.prog 57 #[.pointer (some ⟨T, 0, none⟩)] W fun e W' => e = .returned (.bool false) ∧ W' = W := by
  go_enter Tryz.func57, Tryz.ntmps57
  go_wp2
  go_ret
  exact ⟨rfl, rfl⟩
end Go.Proofs.YtibpagmpdgflmaaGreatDoor

namespace Go.Proofs.YtibpagmpdgflmaaGreatDoor
open Go.RowKit Go.Maps Go.WideMaps
attribute [local go_sem] Oper.semAt_some

def errE (c : Int) : PanicEntry := { v := .iface 22 (.int .i64 c), recovered := false }
theorem tkind_any (n : Nat) (nd : NodeP) (W : World) (h : NodeAt W n nd) :
    Calls Tryz.prog 82 #[.pointer (some ⟨n, 0, none⟩)] W fun e W' => e = .returned (.int .i64 (if nd.kids.isSome then 2 else 1)) ∧ W' = W := by
  have HD := Lib.hid (tdir_any n nd W h)
  cases hk : nd.kids.isSome
  all_goals
    rw [hk] at HD
    go_enter Tryz.func82, Tryz.ntmps82
    go_wp2_with (go_at_call 113; refine HD.out.mono ?_; rintro e w2 ⟨rfl, rfl⟩)
    go_ret
    exact ⟨rfl, rfl⟩
/-- What walked tells. -/
def WalkedT (g : GrP) (W : World) (r : Nat × Nat) (e : Ending) (W' : World) : Prop :=
  (e = if r.2 = 0 then .returned (.pointer (some ⟨r.1, 0, none⟩)) else .panicked [errE r.2]) ∧ (r.2 = 0 → (g r.1).isSome) ∧ W' = W
set_option maxRecDepth 100000 in
set_option maxHeartbeats 4000000 in
theorem twalked_any (g : GrP) (names : List (List UInt8)) (A : Option Addr) (k c root : Nat) (W : World) (h : GAt W g) (hr : (g root).isSome) (hl : names.length = k) (hk : k ≤ 100000) (hn : ∀ s ∈ names, s.length ≤ 100000) (hrow : RowAt W A (names.map fun x => .string (ofBytes x))) :
    Calls Tryz.prog 145 #[.pointer (some ⟨root, 0, none⟩), .slice A k c] W (WalkedT g W (walkG g names root)) := by
  obtain ⟨res, hres⟩ : ∃ res, walkG g names root = res := ⟨_, rfl⟩
  rw [hres]
  have HG := Lib.hid h
  have HM := Lib.hid tmust_any
  have HT := Lib.hid tdir_any
  have HR := Lib.hid hrow
  have HN := Lib.hid hn
  clear h hrow hn
  go_enter Tryz.func145, Tryz.ntmps145
  go_wp2_with fail
  go_loopw [0, 11] (fun v i wr => ∃ (j b : Nat), j ≤ k ∧ i = .int .i64 j ∧ v = .pointer (some ⟨b, 0, none⟩) ∧ (g b).isSome ∧ Hid (res = walkG g (names.drop j) b) ∧ wr = W) (fun _ i _ => k - (intOf i).toNat)
  case atStart => exact ⟨0, root, Nat.zero_le _, rfl, rfl, hr, hres.symm, rfl⟩
  case round =>
    obtain ⟨j, b, hj, rfl, rfl, hb, hw, rfl⟩ := hrel
    by_cases hlt : j < k
    · obtain ⟨s, hs⟩ : ∃ s, names[j]? = some s := ⟨_, List.getElem?_eq_getElem (by omega)⟩
      have hdr : names.drop j = s :: names.drop (j + 1) := by
        rw [List.drop_eq_getElem_cons (by omega)]
        rw [List.getElem?_eq_getElem (by omega)] at hs
        cases hs; rfl
      obtain ⟨b', off', hA, hb', hcs⟩ := HR.out.get (k := j) (u := .string (ofBytes s)) (by rw [List.getElem?_map, hs]; rfl)
      subst hA
      obtain ⟨nd, hnd⟩ := Option.isSome_iff_exists.1 hb
      have hND := HG.out.node b nd hnd
      have HTD := Lib.hid (HT.out b nd wr hND)
      have c0 := hND.kidc
      rw [Hid, hdr] at hw
      have HW := Lib.hid hw
      clear hw hdr
      cases hk : nd.kids with
      | none =>
        have HW2 : Hid (res = (b, 201)) := by rw [Hid, HW.out, walkG, hnd]; simp only; rw [hk]
        rw [hk] at HTD c0
        go_wp2_with (first
          | (go_at_call 113; refine HTD.out.mono ?_; rintro e w2 ⟨rfl, rfl⟩)
          | (go_at_call 130; refine (HM.out _ _ _).mono ?_; rintro e w2 ⟨rfl, rfl⟩))
        exact ⟨rfl, by rw [HW2.out]; exact ⟨rfl, (fun h => by cases h), rfl⟩⟩
      | some p =>
        obtain ⟨m, D⟩ := p
        rw [hk] at HTD c0
        have c0' : wr.cell? ⟨b, 0, none⟩ = some (.map (some m)) := c0
        clear c0
        have hown := hND.own m D hk
        have hsl : s.length ≤ 100000 := HN.out s (List.mem_of_getElem? hs)
        obtain ⟨v, hlk, hat⟩ := held_ok hown keyedS Tryz.underlyingNames (zeroNode wr) (keyS (s := ofBytes s) (by show s.toArray.size ≤ maxLen; unfold maxLen; simp; omega))
        have hds : (ofBytes s).data.toList = s := by simp [ofBytes]
        rw [hds] at hlk hat
        clear hds
        cases hh : Maps.has D (.string s) with
        | false =>
          have HW2 : Hid (res = (b, 202)) := by rw [Hid, HW.out, walkG, hnd]; simp only; rw [hk]; simp only; rw [kidOf_none hh]
          rw [hh] at hlk
          go_wp2_with (first
            | (go_at_call 113; refine HTD.out.mono ?_; rintro e w2 ⟨rfl, rfl⟩)
            | (go_at_call 130; refine (HM.out _ _ _).mono ?_; rintro e w2 ⟨rfl, rfl⟩))
          exact ⟨rfl, by rw [HW2.out]; exact ⟨rfl, (fun h => by cases h), rfl⟩⟩
        | true =>
          obtain ⟨b2, hb2, hb2s, hb2a⟩ := kidOf_some HG.out hnd hk hh
          have hv : v = .pointer (some ⟨b2, 0, none⟩) := by
            have := hb2a (.held (.pointer none))
            rw [hat] at this
            injection this
          subst hv
          have HW2 : Hid (res = walkG g (names.drop (j + 1)) b2) := by rw [Hid, HW.out, walkG, hnd]; simp only; rw [hk]; simp only; rw [hb2]
          rw [hh] at hlk
          go_wp2_with (first
            | (go_at_call 113; refine HTD.out.mono ?_; rintro e w2 ⟨rfl, rfl⟩)
            | (go_at_call 130; refine (HM.out _ _ _).mono ?_; rintro e w2 ⟨rfl, rfl⟩))
          exact ⟨⟨j + 1, b2, by omega, by go_num, rfl, hb2s, HW2.out, trivial⟩, by simp [intOf]; omega⟩
    · have hj2 : j = k := by omega
      have HW2 : Hid (res = (b, 0)) := by rw [Hid, hw.out, List.drop_eq_nil_of_le (by omega)]; rfl
      go_wp2_with fail
      go_ret
      rw [HW2.out]
      exact ⟨rfl, fun _ => hb, rfl⟩
end Go.Proofs.YtibpagmpdgflmaaGreatDoor

namespace Go.Proofs.YtibpagmpdgflmaaGreatDoor
open Go.RowKit Go.Maps Go.WideMaps
attribute [local go_sem] Oper.semAt_some

/-- What tree's split tells. -/
def SplitT (s : ByteArray) (W : World) (e : Ending) (W' : World) : Prop :=
  (if (readP (bytesOf s)).1 = 0 then ∃ A c, e = .returned (.slice A (readP (bytesOf s)).2.length c) ∧ (readP (bytesOf s)).2.length ≤ c ∧ c ≤ maxLen ∧ RowAt W' A ((readP (bytesOf s)).2.map fun x => .string (ofBytes x))
    else e = .panicked [errE (readP (bytesOf s)).1]) ∧ Below W.heap.size W W'
set_option maxRecDepth 100000 in
theorem tsplit_any (s : ByteArray) (W : World) (hs : s.size < 4294967281) : Calls Tryz.prog 146 #[.string s] W (SplitT s W) := by
  have HS := Lib.hid (psplit_any s W hs)
  have HM := Lib.hid tmust_any
  unfold SplitPPost at HS
  obtain ⟨rp, hrp⟩ : ∃ rp, readP (bytesOf s) = rp := ⟨_, rfl⟩
  obtain ⟨z, nm⟩ := rp
  have HP : Hid (SplitT s W = fun e W' => (if z = 0 then ∃ A c, e = .returned (.slice A nm.length c) ∧ nm.length ≤ c ∧ c ≤ maxLen ∧ RowAt W' A (nm.map fun x => .string (ofBytes x)) else e = .panicked [errE z]) ∧ Below W.heap.size W W') := by
    rw [Hid]; funext e W'; unfold SplitT; rw [hrp]
  rw [hrp] at HS
  simp only at HS
  by_cases hz : z = 0
  · subst hz
    rw [HP.out]
    simp only [if_true]
    clear HP
    go_enter Tryz.func146, Tryz.ntmps146
    go_wp2_with (first
      | (go_at_call 175; refine HS.out.mono ?_; rintro e w2 ⟨v, rfl, ⟨A, c, rfl, h1, h2, h3⟩, hb, _⟩; have H3 := Lib.hid h3; clear h3)
      | (go_at_call 130; refine (HM.out _ _ _).mono ?_; rintro e w2 ⟨rfl, rfl⟩))
    go_ret
    exact ⟨⟨A, c, rfl, h1, h2, H3.out⟩, hb⟩
  · have hz2 : (z == 0) = false := by rw [beq_eq_false_iff_ne]; exact hz
    have HP2 : Hid (SplitT s W = fun e W' => e = .panicked [errE z] ∧ Below W.heap.size W W') := by
      rw [Hid, HP.out]; funext e W'; rw [if_neg hz]
    rw [HP2.out]
    clear HP HP2
    go_enter Tryz.func146, Tryz.ntmps146
    go_wp2_with (first
      | (go_at_call 175; refine HS.out.mono ?_; rintro e w2 ⟨v, rfl, ⟨A, c, rfl, h1, h2, h3⟩, hb, _⟩; have H3 := Lib.hid h3; clear h3)
      | (go_at_call 130; refine (HM.out _ _ _).mono ?_; rintro e w2 ⟨rfl, rfl⟩))
    exact ⟨rfl, rfl, hb⟩
/-- What tree's read of one path tells. -/
def ReadT (s : ByteArray) (W : World) (e : Ending) (W' : World) : Prop :=
  e = (if (readP (bytesOf s)).1 = 0 then .returned (.tuple #[]) else .panicked [errE (readP (bytesOf s)).1]) ∧ Below W.heap.size W W'
set_option maxRecDepth 100000 in
theorem tread_any (T root b : Nat) (s : ByteArray) (W : World) (hs : s.size < 4294967281) (hT : W.cell? ⟨T, 0, none⟩ = some (.pointer (some ⟨root, 0, none⟩))) (hb : W.cell? ⟨b, 0, none⟩ = some (.string s)) :
    Calls Tryz.prog 161 #[.pointer (some ⟨T, 0, none⟩), .slice (some ⟨b, 0, none⟩) 1 1] W (ReadT s W) := by
  have HS := Lib.hid (tsplit_any s W hs)
  have HM := Lib.hid tmust_any
  have HN := Lib.hid (tnone_no T root W hT)
  unfold SplitT at HS
  obtain ⟨rp, hrp⟩ : ∃ rp, readP (bytesOf s) = rp := ⟨_, rfl⟩
  obtain ⟨z, nm⟩ := rp
  rw [hrp] at HS
  simp only at HS
  by_cases hz : z = 0
  · subst hz
    have HP : Hid (ReadT s W = fun e W' => e = .returned (.tuple #[]) ∧ Below W.heap.size W W') := by
      rw [Hid]; funext e W'; unfold ReadT; rw [hrp]; rfl
    rw [HP.out]
    clear HP hrp
    simp only [if_true] at HS
    go_enter Tryz.func161, Tryz.ntmps161
    go_wp2_with (first
      | (go_at_call 57; refine HN.out.mono ?_; rintro e w2 ⟨rfl, rfl⟩)
      | (go_at_call 130; refine (HM.out _ _ _).mono ?_; rintro e w2 ⟨rfl, rfl⟩))
    refine wp_loop_rounds 2 ?_
    rw [rounds_succ]
    go_wp2_with (first
      | (go_at_call 146; refine HS.out.mono ?_; rintro e w3 ⟨⟨A, c, rfl, h1, h2, h3⟩, hbb⟩; clear h3))
    rw [rounds_succ]
    go_wp2_with fail
    go_end0
    exact ⟨rfl, hbb⟩
  · have HP : Hid (ReadT s W = fun e W' => e = .panicked [errE z] ∧ Below W.heap.size W W') := by
      rw [Hid]; funext e W'; unfold ReadT; rw [hrp]; simp only; rw [if_neg hz]
    rw [HP.out]
    clear HP hrp
    simp only [hz, if_false] at HS
    go_enter Tryz.func161, Tryz.ntmps161
    go_wp2_with (first
      | (go_at_call 57; refine HN.out.mono ?_; rintro e w2 ⟨rfl, rfl⟩)
      | (go_at_call 130; refine (HM.out _ _ _).mono ?_; rintro e w2 ⟨rfl, rfl⟩))
    refine wp_loop_rounds 2 ?_
    rw [rounds_succ]
    go_wp2_with (first
      | (go_at_call 146; refine HS.out.mono ?_; rintro e w3 ⟨rfl, hbb⟩))
    exact ⟨rfl, rfl, hbb⟩
end Go.Proofs.YtibpagmpdgflmaaGreatDoor
