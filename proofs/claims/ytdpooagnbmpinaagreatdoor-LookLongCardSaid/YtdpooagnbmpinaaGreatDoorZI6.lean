import Derived.Test.YtdpooagnbmpinaaGreatDoorZQ3
namespace Go.Proofs.YtdpooagnbmpinaaGreatDoor
section
open Go.RowKit
def OkSt (fed : List Nat) (st : RSt) : Prop := st.1.length <= fed.length + 1 ∧ (st.2 = false -> st.1.length <= fed.length)
theorem loadR_ok {fed : List Nat} {st : RSt} (h : OkSt fed st) (p : Nat) : OkSt fed (loadR fed p st).2 := by
 unfold loadR
 split
 ·exact h
 ·rename_i hm
  have h2 := h.2 (by simpa using hm)
  split
  ·rename_i x hx
   have := (List.getElem?_eq_some_iff.1 hx).1
   exact ⟨by rw [List.length_append];simp;omega,fun _ => by rw [List.length_append];simp;omega⟩
  ·exact ⟨by rw [List.length_append];simp;omega,fun h => by cases h⟩
theorem enterR_ok {fed : List Nat} {st : RSt} (h : OkSt fed st) (line : Nat) : OkSt fed (enterR fed line st).2 := loadR_ok (loadR_ok h _) _
theorem rootR_ok {fed : List Nat} {st : RSt} (h : OkSt fed st) : OkSt fed (rootR fed st).2 := by
 unfold rootR
 split
 ·exact loadR_ok h _
 ·exact enterR_ok (loadR_ok h _) _
theorem fitsWR_ok {fed : List Nat} (line : Nat) : ∀ (ws : List Nat) (k : Nat) (st : RSt),OkSt fed st -> OkSt fed (fitsWR fed line ws k st).2
 | [],_,_,h => h
 | x :: ws,k,st,h => by
  unfold fitsWR
  split
  ·exact fitsWR_ok line ws (k + 1) _ (loadR_ok h _)
  ·exact loadR_ok h _
theorem fitsR_ok {fed : List Nat} {st : RSt} (h : OkSt fed st) (line : Nat) (s : List UInt8) : OkSt fed (fitsR fed line s st).2 := by
 unfold fitsR
 split
 ·exact fitsWR_ok line _ 0 _ (loadR_ok h _)
 ·exact loadR_ok h _
def chainR (fed : List Nat) (s : List UInt8) : Nat -> Nat -> RSt -> (Nat × Nat) × RSt
 | 0,x,st => if x = 0 then ((0,202),st) else ((0,300),st)
 | fuel + 1,x,st => if x = 0 then ((0,202),st) else if 1023 < x then ((0,300),st) else
  if (fitsR fed x s st).1 then
   (if (loadR fed (x * 8 + 1) (fitsR fed x s st).2).1 = 0 ∨ 1023 < (loadR fed (x * 8 + 1) (fitsR fed x s st).2).1 then ((0,300),(loadR fed (x * 8 + 1) (fitsR fed x s st).2).2)
   else (((loadR fed (x * 8 + 1) (fitsR fed x s st).2).1,0),(loadR fed (x * 8 + 1) (fitsR fed x s st).2).2))
  else chainR fed s fuel (loadR fed (x * 8) (fitsR fed x s st).2).1 (loadR fed (x * 8) (fitsR fed x s st).2).2
def findR (fed : List Nat) (top : Nat) (s : List UInt8) (st : RSt) : (Nat × Nat) × RSt :=
 chainR fed s 1024 (loadR fed (top * 8 + bucketN s) st).1 (loadR fed (top * 8 + bucketN s) st).2
theorem chainR_ok {fed : List Nat} (s : List UInt8) : ∀ (fuel x : Nat) (st : RSt),OkSt fed st -> OkSt fed (chainR fed s fuel x st).2
 | 0,x,st,h => by unfold chainR;split <;> exact h
 | fuel + 1,x,st,h => by
  unfold chainR
  split
  ·exact h
  ·split
   ·exact h
   ·split
    ·split
     ·exact loadR_ok (fitsR_ok h _ _) _
     ·exact loadR_ok (fitsR_ok h _ _) _
    ·exact chainR_ok s fuel _ _ (loadR_ok (fitsR_ok h _ _) _)
theorem findR_ok {fed : List Nat} {st : RSt} (h : OkSt fed st) (top : Nat) (s : List UInt8) : OkSt fed (findR fed top s st).2 := chainR_ok s _ _ _ (loadR_ok h _)
theorem chainR_zero {fed : List Nat} {s : List UInt8} {fuel : Nat} {st : RSt} : chainR fed s fuel 0 st = ((0,202),st) := by
 cases fuel <;> simp [chainR]
theorem chainR_big {fed : List Nat} {s : List UInt8} {fuel x : Nat} {st : RSt} (h : 1023 < x) : chainR fed s fuel x st = ((0,300),st) := by
 cases fuel
 ·simp [chainR];omega
 ·unfold chainR
  rw [if_neg (by omega),if_pos h]
def encFd2 (r : Nat × Nat) : Value := .tuple #[.int .i64 r.1,.int .i64 r.2]
variable {R : Nat} {FA : Option Addr} {nf cf : Nat} {fed : List Nat} {st : RSt}
set_option maxRecDepth 100000 in
set_option maxHeartbeats 4000000 in
theorem findR_any (top : Nat) (s : ByteArray) (W : World) (htop : top < 1024) (hrb : rightB (bytesOf s) = true) (hok : OkSt fed st) (hnf : nf <= 20000) (hx64 : ∀ x ∈ fed,x < 18446744073709551616) (h : RfAt R FA nf cf fed st W) :
  Calls Tryz.prog 70 #[.pointer (some ⟨R,0,none⟩),.int .i64 top,.string s] W fun e W' => e = .returned (encFd2 (findR fed top (bytesOf s) st).1) ∧ RfAt R FA nf cf fed (findR fed top (bytesOf s) st).2 W' ∧ RB R W.heap.size W W' := by
 obtain ⟨hz1,hz40⟩ : 1 <= s.size ∧ s.size <= 40 := rightB_size hrb
 have hnfl : fed.length = nf := h.rd.fedl
 have hlen : ∀ st' : RSt,OkSt fed st' -> st'.1.length <= 20001 := fun st' h' => by have := h'.1;omega
 have HLEN := Lib.hid hlen
 have hb7 : bucketN (bytesOf s) < 7 := Nat.mod_lt _ (by decide)
 have HBK := Lib.hid (fun W => refBucket_any s W (by omega))
 have HFD : Hid (findR fed top (bytesOf s) st = chainR fed (bytesOf s) 1024 (loadR fed (top * 8 + bucketN (bytesOf s)) st).1 (loadR fed (top * 8 + bucketN (bytesOf s)) st).2) := rfl
 have hok1 := loadR_ok hok (top * 8 + bucketN (bytesOf s))
 have hx1 := loadR_lt hx64 (top * 8 + bucketN (bytesOf s)) st
 have HL1 := Lib.hid (fun W1 (h1 : RfAt R FA nf cf fed st W1) => loadR_any (top * 8 + bucketN (bytesOf s)) (8 * (top : Int) + (bucketN (bytesOf s) : Nat)) W1 (by omega) (by have := hlen st hok;omega) (by omega) hx64 h1)
 have HLD := Lib.hid (fun (p : Nat) (q : Int) (st' : RSt) (W1 : World) (hq : q = (p : Int)) (hst : OkSt fed st') (h1 : RfAt R FA nf cf fed st' W1) => loadR_any p q W1 hq (by have := hlen st' hst;omega) (by omega) hx64 h1)
 have HFT := Lib.hid (fun (line : Nat) (st' : RSt) (W1 : World) (hln : line < 1024) (hst : OkSt fed st') (h1 : RfAt R FA nf cf fed st' W1) => fitsR_any line (line : Int) s W1 rfl hln hz1 hz40 (by have := hlen st' hst;omega) (by omega) hx64 h1)
 have HX := Lib.hid hx64
 have HR := Lib.hid h
 have hRl := h.rd.lt
 generalize loadR fed (top * 8 + bucketN (bytesOf s)) st = r1 at *
 obtain ⟨x1,st1⟩ := r1
 have ht0 : (0 : Int) <= 8 * (top : Int) := by omega
 have ht1 : 8 * (top : Int) <= 8192 := by omega
 have hb0 : (0 : Int) <= (bucketN (bytesOf s) : Nat) := by omega
 have hb7' : ((bucketN (bytesOf s) : Nat) : Int) < 7 := by omega
 obtain ⟨bk,hbk⟩ : ∃ bk,bucketN (bytesOf s) = bk := ⟨_,rfl⟩
 rw [hbk] at HBK HL1 hb0 hb7'
 simp only at *
 have HOK1 := Lib.hid hok1
 clear h hx64 hok hok1 hlen hb7 hbk hnfl
 go_enter Tryz.func70,Tryz.ntmps70
 go_wp2_with fail
 refine (HBK.out _).mono ?_
 rintro e w1 ⟨rfl,hb1⟩
 have h1 := HR.out.below hb1
 have HB1 := Lib.hid (RB.of_below hb1 hRl)
 have hs1 := hb1.size
 clear hb1
 go_wp2_with fail
 refine (HL1.out _ h1).mono ?_
 rintro e w2 ⟨rfl,h2,hb2⟩
 have HB2 := Lib.hid (HB1.out.trans (hb2.mono hs1))
 have hs2 := HB2.out.size
 clear h1 hb2
 go_wp2_with fail
 go_loopw [8,9] (fun v i wr => ∃ (k x : Nat) (st' : RSt),k <= 1024 ∧ x < 18446744073709551616 ∧ v = .int .u64 x ∧ i = .int .i64 k ∧ RfAt R FA nf cf fed st' wr ∧ RB R W.heap.size W wr ∧ Hid (findR fed top (bytesOf s) st = chainR fed (bytesOf s) (1024 - k) x st') ∧ Hid (OkSt fed st')) (fun _ i _ => 1025 - (intOf i).toNat)
 case atStart => exact ⟨0,x1,st1,Nat.zero_le _,hx1,rfl,rfl,h2,HB2.out,HFD.out,HOK1.out⟩
 case round =>
  obtain ⟨k,x,st',hk,hx,rfl,rfl,hrf,hrb,hef,hst⟩ := hrel
  have hsr := hrb.size
  have HRB := Lib.hid hrb
  have HRF := Lib.hid hrf
  clear hrb hrf HL1 h2 HB2
  by_cases h0 : x = 0
  ·subst h0
   have HEF : Hid (findR fed top (bytesOf s) st = ((0,202),st')) := by rw [Hid,hef.out,chainR_zero]
   clear hef
   go_wp2_with fail
   go_ret2
   rw [HEF.out]
   exact ⟨rfl,HRF.out,HRB.out⟩
  ·have hx0 : ((x : Int) == 0) = false := by simp;omega
   by_cases hbig : 1023 < x
   ·have HEF : Hid (findR fed top (bytesOf s) st = ((0,300),st')) := by rw [Hid,hef.out,chainR_big hbig]
    have hb' : decide ((1023 : Int) < (x : Int)) = true := by simp;omega
    clear hef
    go_wp2_with fail
    go_ret2
    rw [HEF.out]
    exact ⟨rfl,HRF.out,HRB.out⟩
   ·have hb' : decide ((1023 : Int) < (x : Int)) = false := by simp;omega
    by_cases hlt : k < 1024
    ·have hk' : decide ((1024 : Int) <= (k : Int)) = false := by simp;omega
     have hkn : IntKind.i64.wrap ((k : Int) + 1) = ((k + 1 : Nat) : Int) := by rw [IntWalk.i64_in _ (by omega)];omega
     have hxw : IntKind.i64.wrap (x : Int) = (x : Int) := IntWalk.i64_in _ (by omega)
     have hx80 : (0 : Int) <= 8 * (x : Int) := by omega
     have hx81 : 8 * (x : Int) <= 8192 := by omega
     have HEF1 : Hid (findR fed top (bytesOf s) st = if (fitsR fed x (bytesOf s) st').1 then
       (if (loadR fed (x * 8 + 1) (fitsR fed x (bytesOf s) st').2).1 = 0 ∨ 1023 < (loadR fed (x * 8 + 1) (fitsR fed x (bytesOf s) st').2).1 then ((0,300),(loadR fed (x * 8 + 1) (fitsR fed x (bytesOf s) st').2).2)
       else (((loadR fed (x * 8 + 1) (fitsR fed x (bytesOf s) st').2).1,0),(loadR fed (x * 8 + 1) (fitsR fed x (bytesOf s) st').2).2))
      else chainR fed (bytesOf s) (1024 - (k + 1)) (loadR fed (x * 8) (fitsR fed x (bytesOf s) st').2).1 (loadR fed (x * 8) (fitsR fed x (bytesOf s) st').2).2) := by
      rw [Hid,hef.out,show 1024 - k = (1024 - (k + 1)) + 1 by omega]
      conv => lhs;unfold chainR
      rw [if_neg h0,if_neg hbig]
     have hokf := fitsR_ok hst.out x (bytesOf s)
     have HF := Lib.hid (HFT.out x st' wr (by omega) hst.out HRF.out)
     have HA1 := Lib.hid (fun W1 h1 => HLD.out (x * 8 + 1) (8 * (x : Int) + 1) (fitsR fed x (bytesOf s) st').2 W1 (by omega) hokf h1)
     have HA0 := Lib.hid (fun W1 h1 => HLD.out (x * 8) (8 * (x : Int)) (fitsR fed x (bytesOf s) st').2 W1 (by omega) hokf h1)
     have hn64 := loadR_lt HX.out (x * 8 + 1) (fitsR fed x (bytesOf s) st').2
     have hn64' := loadR_lt HX.out (x * 8) (fitsR fed x (bytesOf s) st').2
     have hok3 := loadR_ok hokf (x * 8)
     clear hef HFT HLD
     generalize loadR fed (x * 8 + 1) (fitsR fed x (bytesOf s) st').2 = r3 at *
     generalize loadR fed (x * 8) (fitsR fed x (bytesOf s) st').2 = r4 at *
     generalize fitsR fed x (bytesOf s) st' = r2 at *
     obtain ⟨is,st2⟩ := r2
     obtain ⟨n3,st3⟩ := r3
     obtain ⟨n4,st4⟩ := r4
     simp only at *
     have HOK3 := Lib.hid hok3
     clear hokf hok3
     cases is
     ·have HEF2 : Hid (findR fed top (bytesOf s) st = chainR fed (bytesOf s) (1024 - (k + 1)) n4 st4) := by rw [Hid,HEF1.out,if_neg (by simp)]
      clear HEF1
      go_wp2_with fail
      refine HF.out.mono ?_
      rintro e w5 ⟨rfl,h5,hb5⟩
      have HB5 := Lib.hid (HRB.out.trans (hb5.mono hsr))
      have hs5 := hb5.size
      clear hb5
      go_wp2_with fail
      refine (HA0.out _ h5).mono ?_
      rintro e w6 ⟨rfl,h6,hb6⟩
      have HB6 := Lib.hid (HB5.out.trans (hb6.mono (by omega)))
      clear hb6 h5
      go_wp2_with fail
      go_roundw
      case rel => exact ⟨k + 1,n4,st4,by omega,hn64',rfl,rfl,h6,HB6.out,HEF2.out,HOK3.out⟩
      case measure => simp [intOf];omega
     ·have HEF2 : Hid (findR fed top (bytesOf s) st = if n3 = 0 ∨ 1023 < n3 then ((0,300),st3) else ((n3,0),st3)) := by rw [Hid,HEF1.out,if_pos rfl]
      clear HEF1
      have hn : (n3 = 0 ∧ ((n3 : Int) == 0) = true) ∨ (1023 < n3 ∧ ((n3 : Int) == 0) = false ∧ decide ((1023 : Int) < (n3 : Int)) = true) ∨ ((¬ (n3 = 0 ∨ 1023 < n3)) ∧ ((n3 : Int) == 0) = false ∧ decide ((1023 : Int) < (n3 : Int)) = false ∧ IntKind.i64.wrap (n3 : Int) = (n3 : Int)) := by
       by_cases e0 : n3 = 0
       ·exact .inl ⟨e0,by simp [e0]⟩
       ·by_cases e1 : 1023 < n3
        ·exact .inr (.inl ⟨e1,by simp;omega,by simp;omega⟩)
        ·exact .inr (.inr ⟨by omega,by simp;omega,by simp;omega,IntWalk.i64_in _ (by omega)⟩)
      have HN := Lib.hid hn
      clear hn
      rcases HN.out with ⟨hq,h3⟩ | ⟨hq,h3,h4⟩ | ⟨hq,h3,h4,h5⟩
      ·have HEF3 : Hid (findR fed top (bytesOf s) st = ((0,300),st3)) := by rw [Hid,HEF2.out,if_pos (.inl hq)]
       clear hq
       go_wp2_with fail
       refine HF.out.mono ?_
       rintro e w5 ⟨rfl,h5,hb5⟩
       have HB5 := Lib.hid (HRB.out.trans (hb5.mono hsr))
       have hs5 := hb5.size
       clear hb5
       go_wp2_with fail
       refine (HA1.out _ h5).mono ?_
       rintro e w6 ⟨rfl,h6,hb6⟩
       have HB6 := Lib.hid (HB5.out.trans (hb6.mono (by omega)))
       clear hb6 h5
       go_wp2_with fail
       go_ret2
       rw [HEF3.out]
       exact ⟨rfl,h6,HB6.out⟩
      ·have HEF3 : Hid (findR fed top (bytesOf s) st = ((0,300),st3)) := by rw [Hid,HEF2.out,if_pos (.inr hq)]
       clear hq
       go_wp2_with fail
       refine HF.out.mono ?_
       rintro e w5 ⟨rfl,h5,hb5⟩
       have HB5 := Lib.hid (HRB.out.trans (hb5.mono hsr))
       have hs5 := hb5.size
       clear hb5
       go_wp2_with fail
       refine (HA1.out _ h5).mono ?_
       rintro e w6 ⟨rfl,h6,hb6⟩
       have HB6 := Lib.hid (HB5.out.trans (hb6.mono (by omega)))
       clear hb6 h5
       go_wp2_with fail
       go_ret2
       rw [HEF3.out]
       exact ⟨rfl,h6,HB6.out⟩
      ·have HEF3 : Hid (findR fed top (bytesOf s) st = ((n3,0),st3)) := by rw [Hid,HEF2.out,if_neg hq]
       clear hq
       go_wp2_with fail
       refine HF.out.mono ?_
       rintro e w5 ⟨rfl,h5',hb5⟩
       have HB5 := Lib.hid (HRB.out.trans (hb5.mono hsr))
       have hs5 := hb5.size
       clear hb5
       go_wp2_with fail
       refine (HA1.out _ h5').mono ?_
       rintro e w6 ⟨rfl,h6,hb6⟩
       have HB6 := Lib.hid (HB5.out.trans (hb6.mono (by omega)))
       clear hb6 h5'
       go_wp2_with fail
       go_ret2
       rw [HEF3.out]
       exact ⟨rfl,h6,HB6.out⟩
    ·have hk' : decide ((1024 : Int) <= (k : Int)) = true := by simp;omega
     have HEF : Hid (findR fed top (bytesOf s) st = ((0,300),st')) := by
      rw [Hid,hef.out,show 1024 - k = 0 by omega]
      unfold chainR
      rw [if_neg h0]
     clear hef
     go_wp2_with fail
     go_ret2
     rw [HEF.out]
     exact ⟨rfl,HRF.out,HRB.out⟩
end
section
open Go.RowKit
abbrev WalkV := Nat × (Nat × Nat × Nat) × Nat
def walkLR (fed : List Nat) : List (List UInt8) -> Nat -> (Nat × Nat × Nat) -> RSt -> WalkV × RSt
 | [],line,n,st => ((line,n,0),st)
 | s :: l,_,n,st => if n.1 ≠ 2 then ((0,(0,0,0),201),st) else
  if (findR fed n.2.2 s st).1.2 ≠ 0 then ((0,(0,0,0),(findR fed n.2.2 s st).1.2),(findR fed n.2.2 s st).2) else
  if (enterR fed (findR fed n.2.2 s st).1.1 (findR fed n.2.2 s st).2).1.2 = true then walkLR fed l (findR fed n.2.2 s st).1.1 (enterR fed (findR fed n.2.2 s st).1.1 (findR fed n.2.2 s st).2).1.1 (enterR fed (findR fed n.2.2 s st).1.1 (findR fed n.2.2 s st).2).2
  else ((0,(0,0,0),300),(enterR fed (findR fed n.2.2 s st).1.1 (findR fed n.2.2 s st).2).2)
def walkR (fed : List Nat) (names : List (List UInt8)) (st : RSt) : WalkV × RSt :=
 if (rootR fed st).1.2.2 = true then walkLR fed names (rootR fed st).1.1 (rootR fed st).1.2.1 (rootR fed st).2 else ((0,(0,0,0),300),(rootR fed st).2)
theorem getN_top {k t : Nat} (h : (getN k t).2 = true) : (getN k t).1.2.2 < 1024 := by
 unfold getN at h ⊢
 cases hn : nodeP k t with
 | none => rw [hn] at h;cases h
 | some n =>
  unfold nodeP at hn
  split at hn
  ·rename_i hh
   cases hn
   exact hh.2.2.2.2
  ·cases hn
theorem enterR_top {fed : List Nat} {line : Nat} {st : RSt} (h : (enterR fed line st).1.2 = true) : (enterR fed line st).1.1.2.2 < 1024 := getN_top h
theorem rootR_top {fed : List Nat} {st : RSt} (h : (rootR fed st).1.2.2 = true) : (rootR fed st).1.2.1.2.2 < 1024 := by
 unfold rootR at h ⊢
 split
 ·rename_i hb
  rw [if_pos hb] at h
  cases h
 ·rename_i hb
  rw [if_neg hb] at h
  exact enterR_top h
theorem chainR_line {fed : List Nat} {s : List UInt8} : ∀ {fuel x : Nat} {st : RSt},(chainR fed s fuel x st).1.2 = 0 -> (chainR fed s fuel x st).1.1 < 1024
 | 0,x,st,h => by
  unfold chainR at h ⊢
  split at h <;> cases h
 | fuel + 1,x,st,h => by
  unfold chainR at h ⊢
  split
  ·rename_i h0
   show 0 < 1024
   omega
  ·rename_i h0
   rw [if_neg h0] at h
   split
   ·show 0 < 1024
    omega
   ·rename_i h1
    rw [if_neg h1] at h
    split
    ·rename_i h2
     split
     ·show 0 < 1024
      omega
     ·rename_i h3
      show (loadR fed (x * 8 + 1) (fitsR fed x s st).2).1 < 1024
      omega
    ·rename_i h2
     rw [if_neg h2] at h
     exact chainR_line h
theorem findR_line {fed : List Nat} {top : Nat} {s : List UInt8} {st : RSt} (h : (findR fed top s st).1.2 = 0) : (findR fed top s st).1.1 < 1024 := chainR_line h
def encWV (r : WalkV) : Value := .tuple #[.int .i64 r.1,encNd r.2.1,.int .i64 r.2.2]
def ndC (n : Nat × Nat × Nat) : Nat -> Value
 | 0 => .int .i64 n.1
 | 1 => .int .i64 n.2.1
 | _ => .int .i64 n.2.2
def z3 : Nat -> Value := fun _ => .int .i64 0
theorem CellsAt.put3n {W : World} {X : Nat} {f : Nat -> Value} (h : CellsAt W X 3 f) (n : Nat × Nat × Nat) : CellsAt (put3 W X n.1 n.2.1 n.2.2) X 3 (ndC n) := by
 refine cells_congr (((h.upd (i := 0) (v := .int .i64 n.1) (by omega)).upd (i := 1) (v := .int .i64 n.2.1) (by omega)).upd (i := 2) (v := .int .i64 n.2.2) (by omega)) fun i hi => ?_
 match i,hi with
 | 0,_ => rfl
 | 1,_ => rfl
 | 2,_ => rfl
theorem CellsAt.put3o {W : World} {X Y : Nat} {f : Nat -> Value} {a b c : Int} (h : CellsAt W X 3 f) (hne : Y ≠ X) : CellsAt (put3 W Y a b c) X 3 f := ((h.set hne).set hne).set hne
variable {R : Nat} {FA : Option Addr} {nf cf : Nat} {fed : List Nat} {st : RSt}
end
end Go.Proofs.YtdpooagnbmpinaaGreatDoor
