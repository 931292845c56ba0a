import Derived.Shelf.Small.Bits
import Derived.Shelf.Small.Strs
import Derived.Shelf.Small.Wraps
import Derived.Shelf.Utf8.RuneCount
import Derived.Shelf.Strconv.Itoa0
import Derived.Shelf.Strings.Search1
import Derived.Shelf.Strings.Search2
import Derived.Shelf.Strings.Search3
import Derived.Shelf.Strings.Count
import Derived.Shelf.LaysM
import Derived.Shelf.Strings.Shaped
import Derived.Shelf.Strings.Prefix
import Derived.Shelf.Strings.Split
import Derived.Shelf.Strings.SplitShaped
import Derived.Shelf.Unicode.Decode
import Derived.Shelf.Strings.RuneCount
import Derived.Shelf.Strings.Explode
import Derived.Shelf.Unicode.DecodeSlow
import Derived.Shelf.Unicode.DecodeAny
import Derived.Ground.SlgfProg
import Derived.Shelf.SlicesE.IndexFunc
import Derived.Shelf.SlicesE.Clone
import Derived.Shelf.SlicesE.Reverse
import Derived.Shelf.SlicesE.Compact
import Derived.Shelf.SlSortCmp.Whole1
import Derived.Shelf.SlSortCmp.NoneTotal
import Derived.Shelf.SlGeneric
import Derived.Ground.SlgnProg
import Derived.Ground.SlsfProg
import Derived.Test.YtdpooagnbmpinaaGreatDoorProg
import Derived.Test.YtdpooagnbmpinaaGreatDoorZPC
import Derived.Test.YtdpooagnbmpinaaGreatDoorZQ1
import Derived.Shelf.GgSortFunc.SW
namespace Go.Proofs
open Go.Shelf
def Tryz.sortText_ren : Go.Shelf.Ren := ⟨fun | 6 => 176 | 15 => 224 | 14 => 223 | 28 => 256 | 29 => 257 | 20 => 248 | 21 => 249 | 22 => 250 | 23 => 251 | 24 => 252 | 25 => 253 | 26 => 254 | 27 => 255 | 46 => 269 | 47 => 270 | 48 => 271 | 49 => 272 | 50 => 273 | 57 => 289 | n => n,fun | 22 => 193 | 24 => 194 | 25 => 196 | 3 => 3 | 39 => 293 | 0 => 0 | 53 => 323 | 55 => 24 | 4 => 4 | 46 => 317 | 45 => 316 | 50 => 52 | 5 => 5 | 9 => 9 | 66 => 337 | 70 => 341 | 76 => 349 | 77 => 142 | n => n,fun | n => n⟩
theorem Tryz.sortText : Go.Proofs.SlLaysF.n6 Tryz.prog Tryz.sortText_ren := {
 mixed := by kernel_rfl
 f6 := ⟨Tryz.f176.name,by decide,Tryz.func176.trans (congrArg some (by kernel_rfl))⟩
 f14 := ⟨Tryz.f223.name,by decide,Tryz.func223.trans (congrArg some (by kernel_rfl))⟩
 f15 := Tryz.func224.trans (congrArg some (by kernel_rfl))
 f20 := ⟨Tryz.f248.name,by decide,Tryz.func248.trans (congrArg some (by kernel_rfl))⟩
 f21 := ⟨Tryz.f249.name,by decide,Tryz.func249.trans (congrArg some (by kernel_rfl))⟩
 f22 := ⟨Tryz.f250.name,by decide,Tryz.func250.trans (congrArg some (by kernel_rfl))⟩
 f23 := ⟨Tryz.f251.name,by decide,Tryz.func251.trans (congrArg some (by kernel_rfl))⟩
 f24 := ⟨Tryz.f252.name,by decide,Tryz.func252.trans (congrArg some (by kernel_rfl))⟩
 f25 := ⟨Tryz.f253.name,by decide,Tryz.func253.trans (congrArg some (by kernel_rfl))⟩
 f26 := ⟨Tryz.f254.name,by decide,Tryz.func254.trans (congrArg some (by kernel_rfl))⟩
 f27 := ⟨Tryz.f255.name,by decide,Tryz.func255.trans (congrArg some (by kernel_rfl))⟩
 f28 := Tryz.func256.trans (congrArg some (by kernel_rfl))
 f29 := Tryz.func257.trans (congrArg some (by kernel_rfl))
 f46 := ⟨Tryz.f269.name,by decide,Tryz.func269.trans (congrArg some (by kernel_rfl))⟩
 f47 := Tryz.func270.trans (congrArg some (by kernel_rfl))
 f48 := Tryz.func271.trans (congrArg some (by kernel_rfl))
 f49 := ⟨Tryz.f272.name,by decide,Tryz.func272.trans (congrArg some (by kernel_rfl))⟩
 f50 := ⟨Tryz.f273.name,by decide,Tryz.func273.trans (congrArg some (by kernel_rfl))⟩
 f57 := ⟨Tryz.f289.name,by decide,Tryz.func289.trans (congrArg some (by kernel_rfl))⟩
 t0 := Tryz.underlying0
 a0 := Tryz.isAgg0
 z0 := Tryz.sizeOf0
 v0 := Tryz.zeroValue0
 t3 := Tryz.underlying3
 a3 := Tryz.isAgg3
 z3 := Tryz.sizeOf3
 v3 := Tryz.zeroValue3
 t4 := Tryz.underlying4
 a4 := Tryz.isAgg4
 z4 := Tryz.sizeOf4
 v4 := Tryz.zeroValue4
 t5 := Tryz.underlying5
 a5 := Tryz.isAgg5
 z5 := Tryz.sizeOf5
 v5 := Tryz.zeroValue5
 t9 := Tryz.underlying9
 a9 := Tryz.isAgg9
 z9 := Tryz.sizeOf9
 v9 := Tryz.zeroValue9
 t22 := Tryz.underlying193
 a22 := Tryz.isAgg193
 z22 := Tryz.sizeOf193
 v22 := Tryz.zeroValue193
 a24 := Tryz.isAgg194
 z24 := Tryz.sizeOf194
 t25 := Tryz.underlying196
 a25 := Tryz.isAgg196
 z25 := Tryz.sizeOf196
 v25 := Tryz.zeroValue196
 t39 := Tryz.underlying293
 a39 := Tryz.isAgg293
 z39 := Tryz.sizeOf293
 v39 := Tryz.zeroValue293
 t45 := Tryz.underlying316
 a45 := Tryz.isAgg316
 z45 := Tryz.sizeOf316
 v45 := Tryz.zeroValue316
 t46 := Tryz.underlying317
 a46 := Tryz.isAgg317
 z46 := Tryz.sizeOf317
 v46 := Tryz.zeroValue317
 t50 := Tryz.underlying52
 a50 := Tryz.isAgg52
 z50 := Tryz.sizeOf52
 v50 := Tryz.zeroValue52
 t53 := Tryz.underlying323
 a53 := Tryz.isAgg323
 z53 := Tryz.sizeOf323
 v53 := Tryz.zeroValue323
 t55 := Tryz.underlying24
 a55 := Tryz.isAgg24
 z55 := Tryz.sizeOf24
 v55 := Tryz.zeroValue24
 t66 := Tryz.underlying337
 a66 := Tryz.isAgg337
 z66 := Tryz.sizeOf337
 v66 := Tryz.zeroValue337
 t70 := Tryz.underlying341
 a70 := Tryz.isAgg341
 z70 := Tryz.sizeOf341
 v70 := Tryz.zeroValue341
 t76 := Tryz.underlying349
 a76 := Tryz.isAgg349
 z76 := Tryz.sizeOf349
 v76 := Tryz.zeroValue349
 t77 := Tryz.underlying142
 a77 := Tryz.isAgg142
 z77 := Tryz.sizeOf142
 v77 := Tryz.zeroValue142 }
def Tryz.compactText_ren : Go.Shelf.Ren := ⟨fun | 43 => 177 | n => n,fun | 22 => 193 | 23 => 194 | 3 => 3 | 4 => 4 | 0 => 0 | n => n,fun | n => n⟩
theorem Tryz.compactText : Go.Proofs.SlLaysE.n43 Tryz.prog Tryz.compactText_ren := {
 mixed := by kernel_rfl
 f43 := ⟨Tryz.f177.name,by decide,Tryz.func177.trans (congrArg some (by kernel_rfl))⟩
 t0 := Tryz.underlying0
 a0 := Tryz.isAgg0
 z0 := Tryz.sizeOf0
 v0 := Tryz.zeroValue0
 t3 := Tryz.underlying3
 a3 := Tryz.isAgg3
 z3 := Tryz.sizeOf3
 v3 := Tryz.zeroValue3
 t4 := Tryz.underlying4
 a4 := Tryz.isAgg4
 z4 := Tryz.sizeOf4
 v4 := Tryz.zeroValue4
 t22 := Tryz.underlying193
 a22 := Tryz.isAgg193
 z22 := Tryz.sizeOf193
 v22 := Tryz.zeroValue193
 a23 := Tryz.isAgg194
 z23 := Tryz.sizeOf194 }
end Go.Proofs
namespace Go.Proofs.YtdpooagnbmpinaaGreatDoor
open Go.RowKit Go.Shelf
def encT (l : List UInt8) : Value := .string (ofBytes l)
theorem order_any (a b : List UInt8) (W : World) :
  Calls Tryz.prog 118 #[encT a,encT b] W fun e w' => e = .returned (.int .i64 (Lib.compareBytes a b)) ∧ w' = W := by
 have hc := Tryz.strings_Compare (ofBytes a) (ofBytes b) W
 have e : Lib.compareBytes (ofBytes a).data.toList (ofBytes b).data.toList = Lib.compareBytes a b := rfl
 rw [e] at hc
 generalize Lib.compareBytes a b = z at *
 unfold encT
 go_enter Tryz.func118,Tryz.ntmps118
 go_wp2_with (go_at_call 178;refine hc.mono ?_;rintro e w' ⟨rfl,rfl⟩)
 go_ret
 exact ⟨rfl,rfl⟩
theorem ofBytes_eq (x y : List UInt8) : ((ofBytes x).toList == (ofBytes y).toList) = decide (x = y) := by
 rw [ByteArray.toList_eq,ByteArray.toList_eq]
 show (x == y) = _
 by_cases h : x = y <;> simp [h]
theorem eql_text (P : Program) (T : TypeId) : EqlAt P T encT (fun x y => decide (x = y)) :=
 ⟨fun x y w => by show _ = Result.ok (Value.bool (decide (x = y))) w;rw [<- ofBytes_eq];exact (EqlAt.string P T).1 (ofBytes x) (ofBytes y) w,fun op a b x y w => (EqlAt.string P T).2 op a b (ofBytes x) (ofBytes y) w⟩
theorem neq_text (P : Program) (T : TypeId) : NeqAt P T encT (fun x y => decide (x = y)) :=
 ⟨fun x y w => by show _ = Result.ok (Value.bool (!decide (x = y))) w;rw [<- ofBytes_eq];exact (NeqAt.string P T).1 (ofBytes x) (ofBytes y) w,fun op a b x y w => (NeqAt.string P T).2 op a b (ofBytes x) (ofBytes y) w⟩
theorem compact_length_le (d : Array (List UInt8)) : (Lib.compactUpTo d d.size).length <= d.size := by
 unfold Lib.compactUpTo
 rw [List.length_map]
 have := List.length_filter_le (Lib.keeps d) (List.range d.size)
 simpa using this
theorem row_of_holds {w : World} {g : Nat} {ys zs : List (List UInt8)} (hg : g < w.heap.size) (h : Sort.Holds encT w g 0 (ys ++ zs).toArray) : RowAt w (some ⟨g,0,none⟩) (ys.map encT) := fun _ =>
 ⟨g,0,rfl,hg,fun k u hu => by
  have hk : k < ys.length := by
   have := (List.getElem?_eq_some_iff.1 hu).1
   simpa using this
  have h1 := (h k (by simp;omega)).1
  rw [h1]
  rw [List.getElem?_map,List.getElem?_eq_getElem hk] at hu
  rw [<- Option.some.inj hu,getElem!_pos _ k (by simp;omega)]
  simp [List.getElem_append_left hk]⟩
def OrderedPost (xs : List (List UInt8)) (g cap : Nat) (w : World) (e : Ending) (w' : World) : Prop :=
 ∃ ys,e = .returned (.slice (some ⟨g,0,none⟩) ys.length cap) ∧ ys.length <= cap ∧ ys.length <= xs.length ∧ Rising ys ∧ (∀ x,x ∈ ys ↔ x ∈ xs) ∧ RowAt w' (some ⟨g,0,none⟩) (ys.map encT) ∧ w.grownBy w' (some g)
theorem grownBy_sorted {α : Type} [Inhabited α] (enc : α -> Value) (w : World) (g n q : Nat) (d d2 : Array α) (os : Array Obj) : w.grownBy (Sort.putRow enc (Sort.ahead (sortWorld enc w g 0 n d os) q) g 0 d2) (some g) :=
 ⟨rfl,rfl,rfl,by simp [Sort.putRow,Sort.mapBlock,Sort.ahead,sortWorld,Sort.grow],fun i hi hne => by
  have : g ≠ i := fun e => hne (by rw [e])
  simp [Sort.putRow,Sort.mapBlock,Sort.ahead,sortWorld,Sort.grow,Array.getElem?_modify,this,Array.getElem?_append,hi]
  rw [Array.getElem_modify_of_ne this]⟩
set_option maxRecDepth 100000 in
set_option maxHeartbeats 1000000 in
theorem inOrder_any (xs : List (List UInt8)) (g n cap base : Nat) (w : World) (hn : n <= 100000) (h : w.ownsRow base 194 1 (.slice (some ⟨g,0,none⟩) n cap) n (xs.map encT)) :
  Calls Tryz.prog 117 #[.func (.func 118) #[] #[],.slice (some ⟨g,0,none⟩) n cap] w (OrderedPost xs g cap w) := by
 obtain ⟨g',cap',e,_,hg,hnc,hcm,hl,hH⟩ := Lib.holds_of_ownsRow h (by simp)
 injection e with e _ ec
 injection e with e
 injection e with e
 subst e;subst ec
 have hsz : xs.toArray.size = n := by simpa using hl
 have eg : ∀ args w,(callFunc 118 args).run Tryz.prog w = .ok (.enter 118 args) w := enters_of Tryz.func118 (by kernel_rfl) rfl
 have hs := Any.slices_SortFunc Tryz.sortText encT (fun _ => rfl) cmpB cmp_swo 118 #[] g 0 cap xs.toArray w eg
  (CmpReads.lays fun m os dk _ x y => (order_any x y _).mono fun _ _ ⟨he,hw⟩ => ⟨he,0,hw⟩) hH hg (by rw [hsz];omega)
 change Calls Tryz.prog 176 _ _ _ at hs
 rw [hsz] at hs
 have hcp : ∀ (d : Array (List UInt8)) (W : World),d.size = n -> Sort.Holds encT W g 0 d -> Calls Tryz.prog 177 #[.slice (some ⟨g,0,none⟩) n cap] W fun e w' =>
   e = .returned (.slice (some ⟨g,0,none⟩) (Lib.compactUpTo d d.size).length cap) ∧ ∃ q,w' = Sort.putRow encT (Sort.ahead W q) g 0 (Lib.compactUpTo d d.size ++ List.replicate (d.size - (Lib.compactUpTo d d.size).length) []).toArray := fun d W hd hW => by
  have := AnyE.slices_Compact Tryz.compactText encT (fun _ => rfl) (eql_text _ _) (neq_text _ _) [] Tryz.zeroValue194 g 0 cap d W hW (by omega) (by omega)
  change Calls Tryz.prog 177 _ _ _ at this
  rw [hd] at this ⊢
  exact this
 have HS := Lib.hid hs
 have HC := Lib.hid hcp
 have HH := Lib.hid hH
 have HL := Lib.hid hl
 have HZ := Lib.hid hsz
 clear hs hcp eg hH h hl hsz
 go_enter Tryz.func117,Tryz.ntmps117
 go_wp2_with fail
 refine HS.out.mono ?_
 rintro e w1 ⟨rfl,d,q,os,hp,hso,hw1⟩
 rw [<- HL.out] at hp hso
 obtain ⟨hdz,hri,hmem⟩ := compact_of_perm hp hso
 have hH1 : Sort.Holds encT w1 g 0 d := by
  rw [hw1]
  exact SW.holds ⟨q,os,rfl⟩ hg HH.out (by rw [hdz];simp)
 have hH2 : ∀ q2,Sort.Holds encT (Sort.putRow encT (Sort.ahead w1 q2) g 0 (Lib.compactUpTo d d.size ++ List.replicate (d.size - (Lib.compactUpTo d d.size).length) []).toArray) g 0 (Lib.compactUpTo d d.size ++ List.replicate (d.size - (Lib.compactUpTo d d.size).length) []).toArray := fun q2 =>
  Go.Sort.holds_putRow encT (Sort.ahead w1 q2) g 0 d _ hH1 (by
   have := compact_length_le d
   simp;omega)
 have hg2 : ∀ q2 d2,w.grownBy (Sort.putRow encT (Sort.ahead w1 q2) g 0 d2) (some g) := fun q2 d2 => by rw [hw1];exact grownBy_sorted _ _ _ _ _ _ _ _
 have hle : (Lib.compactUpTo d d.size).length <= n := by
  have := compact_length_le d
  rw [hdz,HL.out] at this
  rw [hdz,HL.out];exact this
 have HC1 := Lib.hid (HC.out d w1 (by rw [hdz];exact HL.out) hH1)
 have HRI := Lib.hid hri
 have HMEM := Lib.hid hmem
 have HH2 := Lib.hid hH2
 have HG2 := Lib.hid hg2
 generalize Lib.compactUpTo d d.size = ys at *
 clear hw1 hH1 hp hso hri hmem hH2 hg2 hdz
 go_wp2_with fail
 refine HC1.out.mono ?_
 rintro e w2 ⟨rfl,q2,rfl⟩
 go_wp2_with fail
 go_ret
 refine ⟨ys,rfl,by omega,by rw [HL.out];exact hle,HRI.out,HMEM.out,?_,HG2.out _ _⟩
 exact row_of_holds (Nat.lt_of_lt_of_le hg (HG2.out q2 _).size) (HH2.out q2)
end Go.Proofs.YtdpooagnbmpinaaGreatDoor
