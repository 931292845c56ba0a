/- The contract of the document's Find. The contract of the document's Walk. Conditions: none. -/
import Derived.Test.YtdlblbhmeidhbaaGreatDoorZI4
import Derived.Test.YtdlblbhmeidhbaaGreatDoorZQ3
namespace Go.Proofs.YtdlblbhmeidhbaaGreatDoor
open Go.RowKit

/-- As many were asked for as there are words, or one more. -/
def OkSt (fed : List Nat) (st : RSt) : Prop := st.1.length ≤ fed.length + 1 ∧ (st.2 = false → st.1.length ≤ fed.length)
theorem loadR_ok {fed : List Nat} {st : RSt} (h : OkSt fed st) (p : Nat) : OkSt fed (loadR fed p st).2 := by
  unfold loadR
  split
  · exact h
  · rename_i hm
    have h2 := h.2 (by simpa using hm)
    split
    · rename_i x hx
      have := (List.getElem?_eq_some_iff.1 hx).1
      exact ⟨by rw [List.length_append]; simp; omega, fun _ => by rw [List.length_append]; simp; omega⟩
    · exact ⟨by rw [List.length_append]; simp; omega, fun h => by cases h⟩
theorem enterR_ok {fed : List Nat} {st : RSt} (h : OkSt fed st) (line : Nat) : OkSt fed (enterR fed line st).2 := loadR_ok (loadR_ok h _) _
theorem rootR_ok {fed : List Nat} {st : RSt} (h : OkSt fed st) : OkSt fed (rootR fed st).2 := by
  unfold rootR
  split
  · exact loadR_ok h _
  · exact enterR_ok (loadR_ok h _) _
theorem fitsWR_ok {fed : List Nat} (line : Nat) : ∀ (ws : List Nat) (k : Nat) (st : RSt), OkSt fed st → OkSt fed (fitsWR fed line ws k st).2
  | [], _, _, h => h
  | x :: ws, k, st, h => by
    unfold fitsWR
    split
    · exact fitsWR_ok line ws (k + 1) _ (loadR_ok h _)
    · exact loadR_ok h _
theorem fitsR_ok {fed : List Nat} {st : RSt} (h : OkSt fed st) (line : Nat) (s : List UInt8) : OkSt fed (fitsR fed line s st).2 := by
  unfold fitsR
  split
  · exact fitsWR_ok line _ 0 _ (loadR_ok h _)
  · exact loadR_ok h _
/-- A chain, from a word on: a line, or 0 and an error. -/
def chainR (fed : List Nat) (s : List UInt8) : Nat → Nat → RSt → (Nat × Nat) × RSt
  | 0, x, st => if x = 0 then ((0, 202), st) else ((0, 300), st)
  | fuel + 1, x, st => if x = 0 then ((0, 202), st) else if 1023 < x then ((0, 300), st) else
    if (fitsR fed x s st).1 then
      (if (loadR fed (x * 8 + 1) (fitsR fed x s st).2).1 = 0 ∨ 1023 < (loadR fed (x * 8 + 1) (fitsR fed x s st).2).1 then ((0, 300), (loadR fed (x * 8 + 1) (fitsR fed x s st).2).2)
      else (((loadR fed (x * 8 + 1) (fitsR fed x s st).2).1, 0), (loadR fed (x * 8 + 1) (fitsR fed x s st).2).2))
    else chainR fed s fuel (loadR fed (x * 8) (fitsR fed x s st).2).1 (loadR fed (x * 8) (fitsR fed x s st).2).2
def findR (fed : List Nat) (top : Nat) (s : List UInt8) (st : RSt) : (Nat × Nat) × RSt :=
  chainR fed s 1024 (loadR fed (top * 8 + bucketN s) st).1 (loadR fed (top * 8 + bucketN s) st).2
theorem chainR_ok {fed : List Nat} (s : List UInt8) : ∀ (fuel x : Nat) (st : RSt), OkSt fed st → OkSt fed (chainR fed s fuel x st).2
  | 0, x, st, h => by unfold chainR; split <;> exact h
  | fuel + 1, x, st, h => by
    unfold chainR
    split
    · exact h
    · split
      · exact h
      · split
        · split
          · exact loadR_ok (fitsR_ok h _ _) _
          · exact loadR_ok (fitsR_ok h _ _) _
        · exact chainR_ok s fuel _ _ (loadR_ok (fitsR_ok h _ _) _)
theorem findR_ok {fed : List Nat} {st : RSt} (h : OkSt fed st) (top : Nat) (s : List UInt8) : OkSt fed (findR fed top s st).2 := chainR_ok s _ _ _ (loadR_ok h _)
theorem chainR_zero {fed : List Nat} {s : List UInt8} {fuel : Nat} {st : RSt} : chainR fed s fuel 0 st = ((0, 202), st) := by
  cases fuel <;> simp [chainR]
theorem chainR_big {fed : List Nat} {s : List UInt8} {fuel x : Nat} {st : RSt} (h : 1023 < x) : chainR fed s fuel x st = ((0, 300), st) := by
  cases fuel
  · simp [chainR]; omega
  · unfold chainR
    rw [if_neg (by omega), if_pos h]
def encFd2 (r : Nat × Nat) : Value := .tuple #[.int .i64 r.1, .int .i64 r.2]
variable {R : Nat} {FA : Option Addr} {nf cf : Nat} {fed : List Nat} {st : RSt}
set_option maxRecDepth 100000 in
set_option maxHeartbeats 4000000 in
theorem findR_any (top : Nat) (s : ByteArray) (W : World) (htop : top < 1024) (hrb : rightB (bytesOf s) = true) (hok : OkSt fed st) (hnf : nf ≤ 20000) (hx64 : ∀ x ∈ fed, x < 18446744073709551616) (h : RfAt R FA nf cf fed st W) :
    Calls Tryz.prog 34 #[.pointer (some ⟨R, 0, none⟩), .int .i64 top, .string s] W fun e W' => e = .returned (encFd2 (findR fed top (bytesOf s) st).1) ∧ RfAt R FA nf cf fed (findR fed top (bytesOf s) st).2 W' ∧ RB R W.heap.size W W' := by
  obtain ⟨hz1, hz40⟩ : 1 ≤ s.size ∧ s.size ≤ 40 := rightB_size hrb
  have hnfl : fed.length = nf := h.rd.fedl
  have hlen : ∀ st' : RSt, OkSt fed st' → st'.1.length ≤ 20001 := fun st' h' => by have := h'.1; omega
  have HLEN := Lib.hid hlen
  have hb7 : bucketN (bytesOf s) < 7 := Nat.mod_lt _ (by decide)
  have HBK := Lib.hid (fun W => refBucket_any s W (by omega))
  have HFD : Hid (findR fed top (bytesOf s) st = chainR fed (bytesOf s) 1024 (loadR fed (top * 8 + bucketN (bytesOf s)) st).1 (loadR fed (top * 8 + bucketN (bytesOf s)) st).2) := rfl
  have hok1 := loadR_ok hok (top * 8 + bucketN (bytesOf s))
  have hx1 := loadR_lt hx64 (top * 8 + bucketN (bytesOf s)) st
  have HL1 := Lib.hid (fun W1 (h1 : RfAt R FA nf cf fed st W1) => loadR_any (top * 8 + bucketN (bytesOf s)) (8 * (top : Int) + (bucketN (bytesOf s) : Nat)) W1 (by omega) (by have := hlen st hok; omega) (by omega) hx64 h1)
  have HLD := Lib.hid (fun (p : Nat) (q : Int) (st' : RSt) (W1 : World) (hq : q = (p : Int)) (hst : OkSt fed st') (h1 : RfAt R FA nf cf fed st' W1) => loadR_any p q W1 hq (by have := hlen st' hst; omega) (by omega) hx64 h1)
  have HFT := Lib.hid (fun (line : Nat) (st' : RSt) (W1 : World) (hln : line < 1024) (hst : OkSt fed st') (h1 : RfAt R FA nf cf fed st' W1) => fitsR_any line (line : Int) s W1 rfl hln hz1 hz40 (by have := hlen st' hst; omega) (by omega) hx64 h1)
  have HX := Lib.hid hx64
  have HR := Lib.hid h
  have hRl := h.rd.lt
  generalize loadR fed (top * 8 + bucketN (bytesOf s)) st = r1 at *
  obtain ⟨x1, st1⟩ := r1
  have ht0 : (0 : Int) ≤ 8 * (top : Int) := by omega
  have ht1 : 8 * (top : Int) ≤ 8192 := by omega
  have hb0 : (0 : Int) ≤ (bucketN (bytesOf s) : Nat) := by omega
  have hb7' : ((bucketN (bytesOf s) : Nat) : Int) < 7 := by omega
  obtain ⟨bk, hbk⟩ : ∃ bk, bucketN (bytesOf s) = bk := ⟨_, rfl⟩
  rw [hbk] at HBK HL1 hb0 hb7'
  simp only at *
  have HOK1 := Lib.hid hok1
  clear h hx64 hok hok1 hlen hb7 hbk hnfl
  go_enter Tryz.func34, Tryz.ntmps34
  go_wp2_with fail
  refine (HBK.out _).mono ?_
  rintro e w1 ⟨rfl, hb1⟩
  have h1 := HR.out.below hb1
  have HB1 := Lib.hid (RB.of_below hb1 hRl)
  have hs1 := hb1.size
  clear hb1
  go_wp2_with fail
  refine (HL1.out _ h1).mono ?_
  rintro e w2 ⟨rfl, h2, hb2⟩
  have HB2 := Lib.hid (HB1.out.trans (hb2.mono hs1))
  have hs2 := HB2.out.size
  clear h1 hb2
  go_wp2_with fail
  go_loopw [8, 9] (fun v i wr => ∃ (k x : Nat) (st' : RSt), k ≤ 1024 ∧ x < 18446744073709551616 ∧ v = .int .u64 x ∧ i = .int .i64 k ∧ RfAt R FA nf cf fed st' wr ∧ RB R W.heap.size W wr ∧ Hid (findR fed top (bytesOf s) st = chainR fed (bytesOf s) (1024 - k) x st') ∧ Hid (OkSt fed st')) (fun _ i _ => 1025 - (intOf i).toNat)
  case atStart => exact ⟨0, x1, st1, Nat.zero_le _, hx1, rfl, rfl, h2, HB2.out, HFD.out, HOK1.out⟩
  case round =>
    obtain ⟨k, x, st', hk, hx, rfl, rfl, hrf, hrb, hef, hst⟩ := hrel
    have hsr := hrb.size
    have HRB := Lib.hid hrb
    have HRF := Lib.hid hrf
    clear hrb hrf HL1 h2 HB2
    by_cases h0 : x = 0
    · subst h0
      have HEF : Hid (findR fed top (bytesOf s) st = ((0, 202), st')) := by rw [Hid, hef.out, chainR_zero]
      clear hef
      go_wp2_with fail
      go_ret2
      rw [HEF.out]
      exact ⟨rfl, HRF.out, HRB.out⟩
    · have hx0 : ((x : Int) == 0) = false := by simp; omega
      by_cases hbig : 1023 < x
      · have HEF : Hid (findR fed top (bytesOf s) st = ((0, 300), st')) := by rw [Hid, hef.out, chainR_big hbig]
        have hb' : decide ((1023 : Int) < (x : Int)) = true := by simp; omega
        clear hef
        go_wp2_with fail
        go_ret2
        rw [HEF.out]
        exact ⟨rfl, HRF.out, HRB.out⟩
      · have hb' : decide ((1023 : Int) < (x : Int)) = false := by simp; omega
        by_cases hlt : k < 1024
        · have hk' : decide ((1024 : Int) ≤ (k : Int)) = false := by simp; omega
          have hkn : IntKind.i64.wrap ((k : Int) + 1) = ((k + 1 : Nat) : Int) := by rw [IntWalk.i64_in _ (by omega)]; omega
          have hxw : IntKind.i64.wrap (x : Int) = (x : Int) := IntWalk.i64_in _ (by omega)
          have hx80 : (0 : Int) ≤ 8 * (x : Int) := by omega
          have hx81 : 8 * (x : Int) ≤ 8192 := by omega
          have HEF1 : Hid (findR fed top (bytesOf s) st = if (fitsR fed x (bytesOf s) st').1 then
              (if (loadR fed (x * 8 + 1) (fitsR fed x (bytesOf s) st').2).1 = 0 ∨ 1023 < (loadR fed (x * 8 + 1) (fitsR fed x (bytesOf s) st').2).1 then ((0, 300), (loadR fed (x * 8 + 1) (fitsR fed x (bytesOf s) st').2).2)
              else (((loadR fed (x * 8 + 1) (fitsR fed x (bytesOf s) st').2).1, 0), (loadR fed (x * 8 + 1) (fitsR fed x (bytesOf s) st').2).2))
            else chainR fed (bytesOf s) (1024 - (k + 1)) (loadR fed (x * 8) (fitsR fed x (bytesOf s) st').2).1 (loadR fed (x * 8) (fitsR fed x (bytesOf s) st').2).2) := by
            rw [Hid, hef.out, show 1024 - k = (1024 - (k + 1)) + 1 by omega]
            conv => lhs; unfold chainR
            rw [if_neg h0, if_neg hbig]
          have hokf := fitsR_ok hst.out x (bytesOf s)
          have HF := Lib.hid (HFT.out x st' wr (by omega) hst.out HRF.out)
          have HA1 := Lib.hid (fun W1 h1 => HLD.out (x * 8 + 1) (8 * (x : Int) + 1) (fitsR fed x (bytesOf s) st').2 W1 (by omega) hokf h1)
          have HA0 := Lib.hid (fun W1 h1 => HLD.out (x * 8) (8 * (x : Int)) (fitsR fed x (bytesOf s) st').2 W1 (by omega) hokf h1)
          have hn64 := loadR_lt HX.out (x * 8 + 1) (fitsR fed x (bytesOf s) st').2
          have hn64' := loadR_lt HX.out (x * 8) (fitsR fed x (bytesOf s) st').2
          have hok3 := loadR_ok hokf (x * 8)
          clear hef HFT HLD
          generalize loadR fed (x * 8 + 1) (fitsR fed x (bytesOf s) st').2 = r3 at *
          generalize loadR fed (x * 8) (fitsR fed x (bytesOf s) st').2 = r4 at *
          generalize fitsR fed x (bytesOf s) st' = r2 at *
          obtain ⟨is, st2⟩ := r2
          obtain ⟨n3, st3⟩ := r3
          obtain ⟨n4, st4⟩ := r4
          simp only at *
          have HOK3 := Lib.hid hok3
          clear hokf hok3
          cases is
          · have HEF2 : Hid (findR fed top (bytesOf s) st = chainR fed (bytesOf s) (1024 - (k + 1)) n4 st4) := by rw [Hid, HEF1.out, if_neg (by simp)]
            clear HEF1
            go_wp2_with fail
            refine HF.out.mono ?_
            rintro e w5 ⟨rfl, h5, hb5⟩
            have HB5 := Lib.hid (HRB.out.trans (hb5.mono hsr))
            have hs5 := hb5.size
            clear hb5
            go_wp2_with fail
            refine (HA0.out _ h5).mono ?_
            rintro e w6 ⟨rfl, h6, hb6⟩
            have HB6 := Lib.hid (HB5.out.trans (hb6.mono (by omega)))
            clear hb6 h5
            go_wp2_with fail
            go_roundw
            case rel => exact ⟨k + 1, n4, st4, by omega, hn64', rfl, rfl, h6, HB6.out, HEF2.out, HOK3.out⟩
            case measure => simp [intOf]; omega
          · have HEF2 : Hid (findR fed top (bytesOf s) st = if n3 = 0 ∨ 1023 < n3 then ((0, 300), st3) else ((n3, 0), st3)) := by rw [Hid, HEF1.out, if_pos rfl]
            clear HEF1
            have hn : (n3 = 0 ∧ ((n3 : Int) == 0) = true) ∨ (1023 < n3 ∧ ((n3 : Int) == 0) = false ∧ decide ((1023 : Int) < (n3 : Int)) = true) ∨ ((¬ (n3 = 0 ∨ 1023 < n3)) ∧ ((n3 : Int) == 0) = false ∧ decide ((1023 : Int) < (n3 : Int)) = false ∧ IntKind.i64.wrap (n3 : Int) = (n3 : Int)) := by
              by_cases e0 : n3 = 0
              · exact .inl ⟨e0, by simp [e0]⟩
              · by_cases e1 : 1023 < n3
                · exact .inr (.inl ⟨e1, by simp; omega, by simp; omega⟩)
                · exact .inr (.inr ⟨by omega, by simp; omega, by simp; omega, IntWalk.i64_in _ (by omega)⟩)
            have HN := Lib.hid hn
            clear hn
            rcases HN.out with ⟨hq, h3⟩ | ⟨hq, h3, h4⟩ | ⟨hq, h3, h4, h5⟩
            · have HEF3 : Hid (findR fed top (bytesOf s) st = ((0, 300), st3)) := by rw [Hid, HEF2.out, if_pos (.inl hq)]
              clear hq
              go_wp2_with fail
              refine HF.out.mono ?_
              rintro e w5 ⟨rfl, h5, hb5⟩
              have HB5 := Lib.hid (HRB.out.trans (hb5.mono hsr))
              have hs5 := hb5.size
              clear hb5
              go_wp2_with fail
              refine (HA1.out _ h5).mono ?_
              rintro e w6 ⟨rfl, h6, hb6⟩
              have HB6 := Lib.hid (HB5.out.trans (hb6.mono (by omega)))
              clear hb6 h5
              go_wp2_with fail
              go_ret2
              rw [HEF3.out]
              exact ⟨rfl, h6, HB6.out⟩
            · have HEF3 : Hid (findR fed top (bytesOf s) st = ((0, 300), st3)) := by rw [Hid, HEF2.out, if_pos (.inr hq)]
              clear hq
              go_wp2_with fail
              refine HF.out.mono ?_
              rintro e w5 ⟨rfl, h5, hb5⟩
              have HB5 := Lib.hid (HRB.out.trans (hb5.mono hsr))
              have hs5 := hb5.size
              clear hb5
              go_wp2_with fail
              refine (HA1.out _ h5).mono ?_
              rintro e w6 ⟨rfl, h6, hb6⟩
              have HB6 := Lib.hid (HB5.out.trans (hb6.mono (by omega)))
              clear hb6 h5
              go_wp2_with fail
              go_ret2
              rw [HEF3.out]
              exact ⟨rfl, h6, HB6.out⟩
            · have HEF3 : Hid (findR fed top (bytesOf s) st = ((n3, 0), st3)) := by rw [Hid, HEF2.out, if_neg hq]
              clear hq
              go_wp2_with fail
              refine HF.out.mono ?_
              rintro e w5 ⟨rfl, h5', hb5⟩
              have HB5 := Lib.hid (HRB.out.trans (hb5.mono hsr))
              have hs5 := hb5.size
              clear hb5
              go_wp2_with fail
              refine (HA1.out _ h5').mono ?_
              rintro e w6 ⟨rfl, h6, hb6⟩
              have HB6 := Lib.hid (HB5.out.trans (hb6.mono (by omega)))
              clear hb6 h5'
              go_wp2_with fail
              go_ret2
              rw [HEF3.out]
              exact ⟨rfl, h6, HB6.out⟩
        · have hk' : decide ((1024 : Int) ≤ (k : Int)) = true := by simp; omega
          have HEF : Hid (findR fed top (bytesOf s) st = ((0, 300), st')) := by
            rw [Hid, hef.out, show 1024 - k = 0 by omega]
            unfold chainR
            rw [if_neg h0]
          clear hef
          go_wp2_with fail
          go_ret2
          rw [HEF.out]
          exact ⟨rfl, HRF.out, HRB.out⟩
end Go.Proofs.YtdlblbhmeidhbaaGreatDoor

namespace Go.Proofs.YtdlblbhmeidhbaaGreatDoor
open Go.RowKit

abbrev WalkV := Nat × (Nat × Nat × Nat) × Nat
def walkLR (fed : List Nat) : List (List UInt8) → Nat → (Nat × Nat × Nat) → RSt → WalkV × RSt
  | [], line, n, st => ((line, n, 0), st)
  | s :: l, _, n, st => if n.1 ≠ 2 then ((0, (0, 0, 0), 201), st) else
    if (findR fed n.2.2 s st).1.2 ≠ 0 then ((0, (0, 0, 0), (findR fed n.2.2 s st).1.2), (findR fed n.2.2 s st).2) else
    if (enterR fed (findR fed n.2.2 s st).1.1 (findR fed n.2.2 s st).2).1.2 = true then walkLR fed l (findR fed n.2.2 s st).1.1 (enterR fed (findR fed n.2.2 s st).1.1 (findR fed n.2.2 s st).2).1.1 (enterR fed (findR fed n.2.2 s st).1.1 (findR fed n.2.2 s st).2).2
    else ((0, (0, 0, 0), 300), (enterR fed (findR fed n.2.2 s st).1.1 (findR fed n.2.2 s st).2).2)
def walkR (fed : List Nat) (names : List (List UInt8)) (st : RSt) : WalkV × RSt :=
  if (rootR fed st).1.2.2 = true then walkLR fed names (rootR fed st).1.1 (rootR fed st).1.2.1 (rootR fed st).2 else ((0, (0, 0, 0), 300), (rootR fed st).2)
theorem getN_top {k t : Nat} (h : (getN k t).2 = true) : (getN k t).1.2.2 < 1024 := by
  unfold getN at h ⊢
  cases hn : nodeP k t with
  | none => rw [hn] at h; cases h
  | some n =>
    unfold nodeP at hn
    split at hn
    · rename_i hh
      cases hn
      exact hh.2.2.2.2
    · cases hn
theorem enterR_top {fed : List Nat} {line : Nat} {st : RSt} (h : (enterR fed line st).1.2 = true) : (enterR fed line st).1.1.2.2 < 1024 := getN_top h
theorem rootR_top {fed : List Nat} {st : RSt} (h : (rootR fed st).1.2.2 = true) : (rootR fed st).1.2.1.2.2 < 1024 := by
  unfold rootR at h ⊢
  split
  · rename_i hb
    rw [if_pos hb] at h
    cases h
  · rename_i hb
    rw [if_neg hb] at h
    exact enterR_top h
theorem chainR_line {fed : List Nat} {s : List UInt8} : ∀ {fuel x : Nat} {st : RSt}, (chainR fed s fuel x st).1.2 = 0 → (chainR fed s fuel x st).1.1 < 1024
  | 0, x, st, h => by
    unfold chainR at h ⊢
    split at h <;> cases h
  | fuel + 1, x, st, h => by
    unfold chainR at h ⊢
    split
    · rename_i h0
      show 0 < 1024
      omega
    · rename_i h0
      rw [if_neg h0] at h
      split
      · show 0 < 1024
        omega
      · rename_i h1
        rw [if_neg h1] at h
        split
        · rename_i h2
          split
          · show 0 < 1024
            omega
          · rename_i h3
            show (loadR fed (x * 8 + 1) (fitsR fed x s st).2).1 < 1024
            omega
        · rename_i h2
          rw [if_neg h2] at h
          exact chainR_line h
theorem findR_line {fed : List Nat} {top : Nat} {s : List UInt8} {st : RSt} (h : (findR fed top s st).1.2 = 0) : (findR fed top s st).1.1 < 1024 := chainR_line h
def encWV (r : WalkV) : Value := .tuple #[.int .i64 r.1, encNd r.2.1, .int .i64 r.2.2]
def ndC (n : Nat × Nat × Nat) : Nat → Value
  | 0 => .int .i64 n.1
  | 1 => .int .i64 n.2.1
  | _ => .int .i64 n.2.2
def z3 : Nat → Value := fun _ => .int .i64 0
theorem CellsAt.put3n {W : World} {X : Nat} {f : Nat → Value} (h : CellsAt W X 3 f) (n : Nat × Nat × Nat) : CellsAt (put3 W X n.1 n.2.1 n.2.2) X 3 (ndC n) := by
  refine cells_congr (((h.upd (i := 0) (v := .int .i64 n.1) (by omega)).upd (i := 1) (v := .int .i64 n.2.1) (by omega)).upd (i := 2) (v := .int .i64 n.2.2) (by omega)) fun i hi => ?_
  match i, hi with
  | 0, _ => rfl
  | 1, _ => rfl
  | 2, _ => rfl
theorem CellsAt.put3o {W : World} {X Y : Nat} {f : Nat → Value} {a b c : Int} (h : CellsAt W X 3 f) (hne : Y ≠ X) : CellsAt (put3 W Y a b c) X 3 f := ((h.set hne).set hne).set hne
variable {R : Nat} {FA : Option Addr} {nf cf : Nat} {fed : List Nat} {st : RSt}
set_option maxRecDepth 100000 in
set_option maxHeartbeats 6000000 in
theorem walkR_any (nm : List (List UInt8)) (NA : Option Addr) (m cn : Nat) (W : World) (hm : nm.length = m) (hm100 : m ≤ 100) (hcn : m ≤ cn) (hright : ∀ x ∈ nm, rightB x = true) (hrow : RowAt W NA (nm.map fun x => .string (ofBytes x))) (hNA : 0 < m → ∀ b off, NA = some ⟨b, off, none⟩ → b < R)
    (hok : OkSt fed st) (hnf : nf ≤ 20000) (hx64 : ∀ x ∈ fed, x < 18446744073709551616) (h : RfAt R FA nf cf fed st W) :
    Calls Tryz.prog 21 #[.pointer (some ⟨R, 0, none⟩), .slice NA m cn] W fun e W' => e = .returned (encWV (walkR fed nm st).1) ∧ RfAt R FA nf cf fed (walkR fed nm st).2 W' ∧ RB R W.heap.size W W' := by
  have hnfl : fed.length = nf := h.rd.fedl
  have hlen : ∀ st' : RSt, OkSt fed st' → st'.1.length ≤ 20001 := fun st' h' => by have := h'.1; omega
  have HEN := Lib.hid (fun (line : Nat) (st' : RSt) (W1 : World) (hln : line < 1024) (hst : OkSt fed st') (h1 : RfAt R FA nf cf fed st' W1) => enterR_any line (line : Int) W1 rfl hln (by have := hlen st' hst; omega) (by omega) hx64 h1)
  have HFI := Lib.hid (fun (top : Nat) (x : List UInt8) (st' : RSt) (W1 : World) (ht : top < 1024) (hx : rightB x = true) (hst : OkSt fed st') (h1 : RfAt R FA nf cf fed st' W1) => findR_any top (ofBytes x) W1 ht (by rw [bytesOf_ofBytes]; exact hx) hst hnf hx64 h1)
  have HWR : Hid (walkR fed nm st = if (rootR fed st).1.2.2 = true then walkLR fed nm (rootR fed st).1.1 (rootR fed st).1.2.1 (rootR fed st).2 else ((0, (0, 0, 0), 300), (rootR fed st).2)) := rfl
  have hokr := rootR_ok hok
  have htop := rootR_top (fed := fed) (st := st)
  obtain ⟨W0, hW0⟩ : ∃ W0, W.alloc (.cells #[.int .i64 0, .int .i64 0, .int .i64 0] 28) = W0 := ⟨_, rfl⟩
  have hb0 : Below W.heap.size W W0 := by rw [← hW0]; exact (Below.refl _ _).alloc (Nat.le_refl _) _
  have hs0 : W0.heap.size = W.heap.size + 1 := by rw [← hW0]; simp
  have hRl := h.rd.lt
  have hI : CellsAt W0 W.heap.size 3 z3 := by
    rw [← hW0]
    exact cellsAt_new _ _ _ _ _ fun i hi => match i, hi with | 0, _ => rfl | 1, _ => rfl | 2, _ => rfl
  have hF0 := h.rd.free_new hb0 (Nat.le_refl W.heap.size)
  have HB0 := Lib.hid (RB.of_below hb0 hRl)
  have h0 := h.below hb0
  have HRT := Lib.hid (rootR_any W0 (by have := hlen st hok; omega) (by omega) hx64 h0)
  have HROW := Lib.hid hrow
  have HNA := Lib.hid hNA
  have HRD := Lib.hid h.rd
  have HRI := Lib.hid hright
  have HM := Lib.hid hm
  have HX := Lib.hid hx64
  clear h h0 hb0 hx64 hok hlen hrow hNA hright hm hnfl
  generalize rootR fed st = r1 at *
  obtain ⟨⟨ln1, n1, is1⟩, st1⟩ := r1
  have HOK1 := Lib.hid hokr
  have HT1 := Lib.hid htop
  clear hokr htop
  simp only at *
  have HEV1 : Hid (encRt (ln1, n1, is1) = .tuple #[.int .i64 ln1, .agg #[.int .i64 n1.1, .int .i64 n1.2.1, .int .i64 n1.2.2], .bool is1]) := rfl
  rw [HEV1.out] at HRT
  cases is1
  · have HE : Hid (walkR fed nm st = ((0, (0, 0, 0), 300), st1)) := by rw [Hid, HWR.out]; exact if_neg (by simp)
    go_enter Tryz.func21, Tryz.ntmps21
    go_wp2_with fail
    refine HRT.out.mono ?_
    rintro e w1 ⟨rfl, h1, hb1⟩
    have hI1 := hI.rb hb1 (by omega) hF0
    have hF1 := (hb1.keep W.heap.size (by omega) hF0).2
    have HB1 := Lib.hid (HB0.out.trans (hb1.mono (by omega)))
    have hs1 := hb1.size
    clear hI hF0 hb1
    obtain ⟨w2, hw2⟩ : ∃ w2, w1.alloc (.cells #[.int .i64 n1.1, .int .i64 n1.2.1, .int .i64 n1.2.2] 28) = w2 := ⟨_, rfl⟩
    have hb2 : Below w1.heap.size w1 w2 := by rw [← hw2]; exact (Below.refl _ _).alloc (Nat.le_refl _) _
    have hI2 := hI1.below hb2 (by omega)
    have hF2 := freeAt_below hb2 h1.rd.lt hF1
    have H3 := Lib.hid ((h1.below hb2).put3 (a := 0) (b := 0) (c := 0) hF2 (by omega))
    have HB3 := Lib.hid ((HB1.out.trans ((RB.of_below hb2 h1.rd.lt).mono (by omega))).put3 (a := 0) (b := 0) (c := 0) (Nat.le_refl _) hF1.1)
    unfold put3 at H3 HB3
    have y0 := hI2.1 0 (by omega)
    have y1 := hI2.1 1 (by omega)
    have y2 := hI2.1 2 (by omega)
    have z0 := hI2.2 0
    have z1 := hI2.2 1
    have z2 := hI2.2 2
    unfold z3 at y0 y1 y2
    clear hI1 hF1 h1 hb2 hI2 hF2 hW0
    go_wp2_with fail
    rw [HE.out]
    refine bodyPost_ret (v := encWV (0, (0, 0, 0), 300)) (by simp [results, Tryz.results21, go_sem, y0, y1, y2, z0, z1, z2, encWV, encNd, encN]) rfl ?_
    exact ⟨rfl, H3.out, HB3.out⟩
  · have HE : Hid (walkR fed nm st = walkLR fed nm ln1 n1 st1) := by rw [Hid, HWR.out]; exact if_pos rfl
    have ht1 := HT1.out rfl
    go_enter Tryz.func21, Tryz.ntmps21
    go_wp2_with fail
    refine HRT.out.mono ?_
    rintro e w1 ⟨rfl, h1, hb1⟩
    have hI1 := hI.rb hb1 (by omega) hF0
    have hF1 := (hb1.keep W.heap.size (by omega) hF0).2
    have HB1 := Lib.hid (HB0.out.trans (hb1.mono (by omega)))
    have hs1 := hb1.size
    clear hI hF0 hb1 hW0
    obtain ⟨w2, hw2⟩ : ∃ w2, w1.alloc (.cells #[.int .i64 n1.1, .int .i64 n1.2.1, .int .i64 n1.2.2] 28) = w2 := ⟨_, rfl⟩
    have hb2 : Below w1.heap.size w1 w2 := by rw [← hw2]; exact (Below.refl _ _).alloc (Nat.le_refl _) _
    have hC2 : CellsAt w2 w1.heap.size 3 (ndC n1) := by
      rw [← hw2]
      exact cellsAt_new _ _ _ _ _ fun i hi => match i, hi with | 0, _ => rfl | 1, _ => rfl | 2, _ => rfl
    have hs2 : w2.heap.size = w1.heap.size + 1 := by rw [← hw2]; simp
    have hI2 := hI1.below hb2 (by omega)
    have hF2 := freeAt_below hb2 h1.rd.lt hF1
    have hG2 := h1.rd.free_new hb2 (Nat.le_refl w1.heap.size)
    have h2 := h1.below hb2
    have HB2 := Lib.hid (HB1.out.trans ((RB.of_below hb2 h1.rd.lt).mono (by omega)))
    clear hI1 hF1 h1 hb2 HB1
    go_wp2_with fail
    clear hw2
    obtain ⟨X, hX⟩ : ∃ X, w1.heap.size = X := ⟨_, rfl⟩
    rw [hX] at hC2 hG2 hs2 hs1
    rw [hX]
    have hXW : W.heap.size < X := by omega
    clear hX
    go_loopw [7, 10] (fun l i wr => ∃ (k ln : Nat) (n : Nat × Nat × Nat) (st' : RSt), k ≤ m ∧ n.2.2 < 1024 ∧ l = .int .i64 ln ∧ i = .int .i64 k ∧ RfAt R FA nf cf fed st' wr ∧ RB R W.heap.size W wr ∧ X < wr.heap.size ∧ Hid (CellsAt wr W.heap.size 3 z3 ∧ FreeAt R wr W.heap.size ∧ CellsAt wr X 3 (ndC n) ∧ FreeAt R wr X) ∧ Hid (walkR fed nm st = walkLR fed (nm.drop k) ln n st') ∧ Hid (OkSt fed st')) (fun _ i _ => m - (intOf i).toNat)
    case atStart => exact ⟨0, ln1, n1, st1, Nat.zero_le _, ht1, rfl, rfl, h2, HB2.out, by omega, ⟨hI2, hF2, hC2, hG2⟩, HE.out, HOK1.out⟩
    case round =>
      obtain ⟨k, ln, n, st', hk, htn, rfl, rfl, hrf, hrb, hXr, hcs, hef, hst⟩ := hrel
      obtain ⟨hcO, hfO, hcX, hfX⟩ := hcs.out
      have hsr := hrb.size
      by_cases hlt : k < m
      · obtain ⟨s, hs⟩ : ∃ s, nm[k]? = some s := ⟨_, List.getElem?_eq_getElem (by rw [HM.out]; exact hlt)⟩
        have hdrop : nm.drop k = s :: nm.drop (k + 1) := by
          have hkw : k < nm.length := by rw [HM.out]; exact hlt
          rw [List.drop_eq_getElem_cons hkw]
          rw [List.getElem?_eq_getElem hkw] at hs
          exact congrArg (· :: nm.drop (k + 1)) (Option.some.inj hs)
        have hrs := HRI.out s (List.mem_of_getElem? hs)
        obtain ⟨b, off, rfl, hbW, hcb⟩ := HROW.out (by rw [List.length_map, HM.out]; omega)
        have hbR := HNA.out (by omega) b off rfl
        have hcs' : wr.cell? ⟨b, off + k, none⟩ = some (.string (ofBytes s)) := (hrb.cell (by omega) (HRD.out.free_lt hbR)).trans (hcb k _ (by rw [List.getElem?_map, hs]; rfl))
        have x0 : wr.cell? ⟨X, 0, none⟩ = some (.int .i64 n.1) := hcX.1 0 (by omega)
        have x1 : wr.cell? ⟨X, 1, none⟩ = some (.int .i64 n.2.1) := hcX.1 1 (by omega)
        have x2 : wr.cell? ⟨X, 2, none⟩ = some (.int .i64 n.2.2) := hcX.1 2 (by omega)
        have hkm : (k : Int) < (m : Int) := by omega
        have hk0 : (0 : Int) ≤ (k : Int) := by omega
        have hkn : IntKind.i64.wrap ((k : Int) + 1) = ((k + 1 : Nat) : Int) := by rw [IntWalk.i64_in _ (by omega)]; omega
        have hef1 := hef.out
        rw [hdrop] at hef1
        conv at hef1 => rhs; unfold walkLR
        have HEF1 := Lib.hid hef1
        have HRB := Lib.hid hrb
        have HKP : Hid (∀ w5, RB R wr.drew.heap.size wr.drew w5 → w5.cell? ⟨X, 2, none⟩ = some (.int .i64 n.2.2) ∧ w5.cell? ⟨b, off + k, none⟩ = some (.string (ofBytes s))) := fun w5 hb5 =>
          ⟨(hb5.cell (b := X) (off := 2) hXr hfX).trans x2, (hb5.cell (b := b) (off := off + k) (by show b < wr.heap.size; omega) (hrf.rd.free_lt hbR)).trans hcs'⟩
        clear hcb hbW hbR hdrop hs hef hef1 hrb
        by_cases hn2 : n.1 = 2
        · have hk2 : ((n.1 : Int) != 2) = false := by rw [hn2]; rfl
          have HEF2 := Lib.hid (HEF1.out.trans (if_neg (by omega)))
          have hokf := findR_ok hst.out n.2.2 s
          have hln := findR_line (fed := fed) (top := n.2.2) (s := s) (st := st')
          have hFC := HFI.out n.2.2 s st' wr.drew htn hrs hst.out hrf.drew'
          rw [bytesOf_ofBytes] at hFC
          have hn01 : (n.2.2 : Int) < 1024 := by omega
          clear HEF1 hrf
          generalize findR fed n.2.2 s st' = r2 at *
          obtain ⟨⟨ln2, no⟩, st2⟩ := r2
          unfold encFd2 at hFC
          have HFC := Lib.hid hFC
          have HLN := Lib.hid hln
          simp only at *
          have HCO : Hid (CellsAt wr.drew W.heap.size 3 z3 ∧ FreeAt R wr.drew W.heap.size ∧ CellsAt wr.drew X 3 (ndC n) ∧ FreeAt R wr.drew X) := ⟨hcO, hfO, hcX, hfX⟩
          have HRB2 := Lib.hid (HRB.out.trans (RB.drew' _ _ wr))
          have hsd : wr.drew.heap.size = wr.heap.size := rfl
          clear hFC hln hcO hfO hcX hfX hcs
          by_cases hno : no = 0
          · subst hno
            have hl2 := HLN.out rfl
            have hoke := enterR_ok hokf ln2
            have htp := enterR_top (fed := fed) (line := ln2) (st := st2)
            have HEC := Lib.hid (fun W1 h1 => HEN.out ln2 st2 W1 hl2 hokf h1)
            have hef3 := HEF2.out.trans (if_neg (by simp))
            have HEF3 := Lib.hid hef3
            clear HEF2 hef3
            generalize enterR fed ln2 st2 = r3 at *
            obtain ⟨⟨n3, is3⟩, st3⟩ := r3
            have HTP := Lib.hid htp
            have HEV : Hid (encNd n3 = .agg #[.int .i64 n3.1, .int .i64 n3.2.1, .int .i64 n3.2.2]) := rfl
            simp only at *
            rw [HEV.out] at HEC
            have HOKE := Lib.hid hoke
            clear htp hoke
            go_wp2_with fail
            go_region_held3 (fun w1 => w1.cell? ⟨X, 2, none⟩ = some (.int .i64 n.2.2) ∧ w1.cell? ⟨b, off + k, none⟩ = some (.string (ofBytes s)))
              (first | exact HKP.out _ (RB.refl _ _ _) | exact HKP.out _ (by assumption) | assumption)
              ((go_at_call 34; refine HFC.out.mono ?_; rintro e w5 ⟨rfl, h5, hb5⟩))
            obtain ⟨qcO, qfO, qcX, qfX⟩ := HCO.out
            have kcO := qcO.rb hb5 (by omega) qfO
            have kfO := (hb5.keep W.heap.size (by omega) qfO).2
            have kcX := qcX.rb hb5 (by omega) qfX
            have kfX := (hb5.keep X (by omega) qfX).2
            have HB5 := Lib.hid (HRB2.out.trans (hb5.mono (by omega)))
            have hs5 := hb5.size
            clear qcO qfO qcX qfX hb5
            go_wp2_with fail
            refine (HEC.out _ h5).mono ?_
            rintro e w6 ⟨rfl, h6, hb6⟩
            have lcO := kcO.rb hb6 (by omega) kfO
            have lfO := (hb6.keep W.heap.size (by omega) kfO).2
            have lcX := kcX.rb hb6 (by omega) kfX
            have lfX := (hb6.keep X (by omega) kfX).2
            have HB6 := Lib.hid (HB5.out.trans (hb6.mono (by omega)))
            have hs6 := hb6.size
            clear kcO kfO kcX kfX hb6 h5
            have v0 : w6.cell? ⟨X, 0, none⟩ = some (.int .i64 n.1) := lcX.1 0 (by omega)
            have v1 : w6.cell? ⟨X, 1, none⟩ = some (.int .i64 n.2.1) := lcX.1 1 (by omega)
            have v2 : w6.cell? ⟨X, 2, none⟩ = some (.int .i64 n.2.2) := lcX.1 2 (by omega)
            have u0 := lcX.2 0
            have u1 := lcX.2 1
            have u2 := lcX.2 2
            obtain ⟨w7, hw7⟩ : ∃ w7, put3 w6 X n3.1 n3.2.1 n3.2.2 = w7 := ⟨_, rfl⟩
            have h7 : RfAt R _ nf cf fed st3 w7 := hw7 ▸ h6.put3 lfX (by omega)
            have HB7 : Hid (RB R W.heap.size W w7) := hw7 ▸ HB6.out.put3 (by omega) lfX.1
            have hs7 : X < w7.heap.size := by rw [← hw7, put3_size]; omega
            have mcO : CellsAt w7 W.heap.size 3 z3 := hw7 ▸ lcO.put3o (by omega)
            have mfO : FreeAt R w7 W.heap.size := hw7 ▸ lfO.put3 lfX.1
            have mcX : CellsAt w7 X 3 (ndC n3) := hw7 ▸ lcX.put3n n3
            have mfX : FreeAt R w7 X := hw7 ▸ lfX.put3 lfX.1
            unfold put3 at hw7
            clear lcO lfO lcX lfX h6
            cases is3
            · have HEF4 : Hid (walkR fed nm st = ((0, (0, 0, 0), 300), st3)) := HEF3.out.trans (if_neg (by simp))
              have H8 := Lib.hid (h7.put3 (a := 0) (b := 0) (c := 0) mfO (by omega))
              have HB8 := Lib.hid (HB7.out.put3 (a := 0) (b := 0) (c := 0) (Nat.le_refl _) mfO.1)
              unfold put3 at H8 HB8
              have y0 := mcO.1 0 (by omega)
              have y1 := mcO.1 1 (by omega)
              have y2 := mcO.1 2 (by omega)
              have z0 := mcO.2 0
              have z1 := mcO.2 1
              have z2 := mcO.2 2
              unfold z3 at y0 y1 y2
              clear mcO mfO mcX mfX h7
              go_wp2_with fail
              rw [HEF4.out]
              refine bodyPost_ret (v := encWV (0, (0, 0, 0), 300)) (by simp [results, Tryz.results21, go_sem, y0, y1, y2, z0, z1, z2, encWV, encNd, encN]) rfl ?_
              exact ⟨rfl, H8.out, HB8.out⟩
            · have HEF4 : Hid (walkR fed nm st = walkLR fed (nm.drop (k + 1)) ln2 n3 st3) := HEF3.out.trans (if_pos rfl)
              have HN3 := Lib.hid (HTP.out rfl)
              go_wp2_with fail
              go_roundw
              case rel => exact ⟨k + 1, ln2, n3, st3, by omega, HN3.out, rfl, rfl, h7, HB7.out, hs7, ⟨mcO, mfO, mcX, mfX⟩, HEF4.out, HOKE.out⟩
              case measure => simp [intOf]; omega
          · have hno' : ((no : Int) != 0) = true := by rw [bne_iff_ne]; omega
            have HEF3 : Hid (walkR fed nm st = ((0, (0, 0, 0), no), st2)) := HEF2.out.trans (if_pos hno)
            clear HEF2 hno
            go_wp2_with fail
            go_region_held3 (fun w1 => w1.cell? ⟨X, 2, none⟩ = some (.int .i64 n.2.2) ∧ w1.cell? ⟨b, off + k, none⟩ = some (.string (ofBytes s)))
              (first | exact HKP.out _ (RB.refl _ _ _) | exact HKP.out _ (by assumption) | assumption)
              ((go_at_call 34; refine HFC.out.mono ?_; rintro e w5 ⟨rfl, h5, hb5⟩))
            obtain ⟨qcO, qfO, qcX, qfX⟩ := HCO.out
            have kcO := qcO.rb hb5 (by omega) qfO
            have kfO := (hb5.keep W.heap.size (by omega) qfO).2
            have HB5 := Lib.hid (HRB2.out.trans (hb5.mono (by omega)))
            have y0 : w5.cell? ⟨W.heap.size, 0, none⟩ = some (.int .i64 0) := kcO.1 0 (by omega)
            have y1 : w5.cell? ⟨W.heap.size, 1, none⟩ = some (.int .i64 0) := kcO.1 1 (by omega)
            have y2 : w5.cell? ⟨W.heap.size, 2, none⟩ = some (.int .i64 0) := kcO.1 2 (by omega)
            have z0 := kcO.2 0
            have z1 := kcO.2 1
            have z2 := kcO.2 2
            have H8 := Lib.hid (h5.put3 (a := 0) (b := 0) (c := 0) kfO (by omega))
            have HB8 := Lib.hid (HB5.out.put3 (a := 0) (b := 0) (c := 0) (Nat.le_refl _) kfO.1)
            clear qcO qfO qcX qfX hb5 kcO kfO h5
            go_wp2_with fail
            unfold put3 at H8 HB8
            rw [HEF3.out]
            refine bodyPost_ret (v := encWV (0, (0, 0, 0), no)) (by simp [results, Tryz.results21, go_sem, y0, y1, y2, z0, z1, z2, encWV, encNd, encN]) rfl ?_
            exact ⟨rfl, H8.out, HB8.out⟩
        · have hk2 : ((n.1 : Int) != 2) = true := by rw [bne_iff_ne]; omega
          have HEF2 : Hid (walkR fed nm st = ((0, (0, 0, 0), 201), st')) := by rw [Hid, HEF1.out, if_pos hn2]
          have H3 := Lib.hid (hrf.put3 (a := 0) (b := 0) (c := 0) hfO (by omega))
          have HB3 := Lib.hid (HRB.out.put3 (a := 0) (b := 0) (c := 0) (Nat.le_refl _) hfO.1)
          unfold put3 at H3 HB3
          have y0 := hcO.1 0 (by omega)
          have y1 := hcO.1 1 (by omega)
          have y2 := hcO.1 2 (by omega)
          have z0 := hcO.2 0
          have z1 := hcO.2 1
          have z2 := hcO.2 2
          unfold z3 at y0 y1 y2
          clear hrf hcO hfO hcX hfX hn2
          go_wp2_with fail
          rw [HEF2.out]
          refine bodyPost_ret (v := encWV (0, (0, 0, 0), 201)) (by simp [results, Tryz.results21, go_sem, y0, y1, y2, z0, z1, z2, encWV, encNd, encN]) rfl ?_
          exact ⟨rfl, H3.out, HB3.out⟩
      · have hkm : k = m := by omega
        subst hkm
        have HEF2 : Hid (walkR fed nm st = ((ln, n, 0), st')) := by
          rw [Hid, hef.out, List.drop_eq_nil_of_le (by rw [HM.out]; exact Nat.le_refl _)]
          rfl
        have x0 : wr.cell? ⟨X, 0, none⟩ = some (.int .i64 n.1) := hcX.1 0 (by omega)
        have x1 : wr.cell? ⟨X, 1, none⟩ = some (.int .i64 n.2.1) := hcX.1 1 (by omega)
        have x2 : wr.cell? ⟨X, 2, none⟩ = some (.int .i64 n.2.2) := hcX.1 2 (by omega)
        have y0 := hcO.1 0 (by omega)
        have y1 := hcO.1 1 (by omega)
        have y2 := hcO.1 2 (by omega)
        have z0 := hcO.2 0
        have z1 := hcO.2 1
        have z2 := hcO.2 2
        unfold z3 at y0 y1 y2
        have H3 := Lib.hid (hrf.put3 (a := n.1) (b := n.2.1) (c := n.2.2) hfO (by omega))
        have HB3 := Lib.hid (hrb.put3 (a := n.1) (b := n.2.1) (c := n.2.2) (Nat.le_refl _) hfO.1)
        unfold put3 at H3 HB3
        clear hrf hrb hcO hfO hcX hfX hef
        go_wp2_with fail
        go_region
        all_goals
          go_wp2_with fail
          rw [HEF2.out]
          refine bodyPost_ret (v := encWV (ln, n, 0)) (by simp [results, Tryz.results21, go_sem, y0, y1, y2, z0, z1, z2, encWV, encNd, encN]) rfl ?_
          exact ⟨rfl, H3.out.drew', HB3.out.trans (RB.drew' _ _ _)⟩
end Go.Proofs.YtdlblbhmeidhbaaGreatDoor
