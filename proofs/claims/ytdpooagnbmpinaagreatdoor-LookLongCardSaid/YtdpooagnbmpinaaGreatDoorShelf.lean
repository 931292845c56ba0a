import Derived.Shelf.Small.Bits
import Derived.Shelf.Small.Strs
import Derived.Shelf.Small.Wraps
import Derived.Shelf.Utf8.RuneCount
import Derived.Shelf.Strconv.Itoa0
import Derived.Shelf.Strings.Search1
import Derived.Shelf.Strings.Search2
import Derived.Shelf.Strings.Search3
import Derived.Shelf.Strings.Count
import Derived.Shelf.LaysM
import Derived.Shelf.Strings.Shaped
import Derived.Shelf.Strings.Prefix
import Derived.Shelf.Strings.Split
import Derived.Shelf.Strings.SplitShaped
import Derived.Shelf.Unicode.Decode
import Derived.Shelf.Strings.RuneCount
import Derived.Shelf.Strings.Explode
import Derived.Shelf.Unicode.DecodeSlow
import Derived.Shelf.Unicode.DecodeAny
import Derived.Ground.SlgfProg
import Derived.Shelf.SlicesE.IndexFunc
import Derived.Shelf.SlicesE.Clone
import Derived.Shelf.SlicesE.Reverse
import Derived.Shelf.SlGeneric
import Derived.Ground.SlgnProg
import Derived.Test.YtdpooagnbmpinaaGreatDoorProg
namespace Go.Proofs
open Go.Shelf
def Tryz.lays128_ren : Go.Shelf.Ren := ⟨fun | 128 => 256 | n => n,fun | 51 => 323 | 3 => 3 | 4 => 4 | 46 => 293 | 5 => 5 | 9 => 9 | n => n,fun | n => n⟩
def Tryz.lays125_ren : Go.Shelf.Ren := ⟨fun | 125 => 224 | 128 => 256 | 129 => 257 | n => n,fun | 46 => 293 | 3 => 3 | 51 => 323 | 53 => 24 | 4 => 4 | 5 => 5 | 9 => 9 | n => n,fun | n => n⟩
def Tryz.lays213_ren : Go.Shelf.Ren := ⟨fun | 213 => 225 | 265 => 258 | n => n,fun | 9 => 9 | 3 => 3 | n => n,fun | n => n⟩
open Go.RowKit in
def Tryz.lays106_ren : Go.Shelf.Ren := ⟨fun | 106 => 178 | 213 => 225 | 265 => 258 | n => n,fun | 9 => 9 | 3 => 3 | n => n,fun | n => n⟩
theorem Tryz.lays106 : Go.Proofs.Lays.n106 Tryz.prog Tryz.lays106_ren := {
 mixed := by kernel_rfl
 f106 := Tryz.func178.trans (congrArg some (by kernel_rfl))
 f213 := Tryz.func225.trans (congrArg some (by kernel_rfl))
 f265 := Tryz.func258.trans (congrArg some (by kernel_rfl))
 t3 := Tryz.underlying3
 a3 := Tryz.isAgg3
 z3 := Tryz.sizeOf3
 v3 := Tryz.zeroValue3
 t9 := Tryz.underlying9
 a9 := Tryz.isAgg9
 z9 := Tryz.sizeOf9
 v9 := Tryz.zeroValue9 }
open Go.RowKit in
theorem Tryz.strings_Compare (a b : ByteArray) (w : World) :
  Calls Tryz.prog 178 #[.string a,.string b] w fun e w' => e = .returned (.int .i64 (Lib.compareBytes a.data.toList b.data.toList)) ∧ w' = w := Any.strings_Compare Tryz.lays106 a b w
def Tryz.lays210_ren : Go.Shelf.Ren := ⟨fun | 210 => 189 | 206 => 229 | n => n,fun | 9 => 9 | 4 => 4 | 3 => 3 | n => n,fun | n => n⟩
open Go.RowKit in
def Tryz.lays103_ren : Go.Shelf.Ren := ⟨fun | 103 => 129 | 210 => 189 | 206 => 229 | n => n,fun | 9 => 9 | 4 => 4 | 24 => 205 | 3 => 3 | n => n,fun | n => n⟩
theorem Tryz.lays103 : Go.Proofs.Lays.n103 Tryz.prog Tryz.lays103_ren := {
 mixed := by kernel_rfl
 f103 := Tryz.func129.trans (congrArg some (by kernel_rfl))
 f206 := Tryz.func229.trans (congrArg some (by kernel_rfl))
 f210 := Tryz.func189.trans (congrArg some (by kernel_rfl))
 t3 := Tryz.underlying3
 a3 := Tryz.isAgg3
 z3 := Tryz.sizeOf3
 v3 := Tryz.zeroValue3
 t4 := Tryz.underlying4
 a4 := Tryz.isAgg4
 z4 := Tryz.sizeOf4
 v4 := Tryz.zeroValue4
 t9 := Tryz.underlying9
 a9 := Tryz.isAgg9
 z9 := Tryz.sizeOf9
 v9 := Tryz.zeroValue9
 t24 := Tryz.underlying205
 a24 := Tryz.isAgg205
 z24 := Tryz.sizeOf205
 v24 := Tryz.zeroValue205 }
open Go.RowKit in
theorem Tryz.strings_CutPrefix (s p : ByteArray) (w : World) :
  Calls Tryz.prog 129 #[.string s,.string p] w fun e w' => e = .returned (.tuple #[.string ⟨(Lib.trimPrefix s.data.toList p.data.toList).toArray⟩,.bool (Lib.hasPrefix s.data.toList p.data.toList)]) ∧ w' = w := Any.strings_CutPrefix Tryz.lays103 s p w
def Tryz.lays195_ren : Go.Shelf.Ren := ⟨fun | 195 => 260 | n => n,fun | 9 => 9 | 3 => 3 | 0 => 0 | 4 => 4 | n => n,fun | n => n⟩
open Go.RowKit in
def Tryz.lays129_ren : Go.Shelf.Ren := ⟨fun | 129 => 257 | n => n,fun | 53 => 24 | 3 => 3 | 4 => 4 | 46 => 293 | 5 => 5 | 9 => 9 | n => n,fun | n => n⟩
def Tryz.lays217_ren : Go.Shelf.Ren := ⟨fun | 217 => 275 | 266 => 290 | n => n,fun | 9 => 9 | 5 => 5 | 3 => 3 | n => n,fun | n => n⟩
open Go.RowKit Go.Lib in
def Tryz.lays224_ren : Go.Shelf.Ren := ⟨fun | 224 => 277 | n => n,fun | 3 => 3 | n => n,fun | n => n⟩
open Go.RowKit Go.Lib in
def Tryz.lays314_ren : Go.Shelf.Ren := ⟨fun | 314 => 291 | n => n,fun | 9 => 9 | 51 => 323 | 3 => 3 | 4 => 4 | 5 => 5 | 46 => 293 | n => n,fun | n => n⟩
open Go.RowKit Go.Lib in
def Tryz.lays267_ren : Go.Shelf.Ren := ⟨fun | 267 => 278 | 314 => 291 | n => n,fun | 9 => 9 | 3 => 3 | 146 => 355 | 51 => 323 | 4 => 4 | 5 => 5 | 46 => 293 | n => n,fun | n => n⟩
open Go.RowKit Go.Lib in
def Tryz.lays219_ren : Go.Shelf.Ren := ⟨fun | 219 => 263 | 217 => 275 | 225 => 276 | 224 => 277 | 267 => 278 | 266 => 290 | 314 => 291 | n => n,fun | 9 => 9 | 3 => 3 | 4 => 4 | 5 => 5 | 46 => 293 | 146 => 355 | 51 => 323 | n => n,fun | 1 => 0 | n => n⟩
open Go.RowKit Go.Lib in
open Go.RowKit Go.Lib in
def Tryz.lays143_ren : Go.Shelf.Ren := ⟨fun | 143 => 232 | 219 => 263 | 217 => 275 | 225 => 276 | 224 => 277 | 267 => 278 | 266 => 290 | 314 => 291 | n => n,fun | 9 => 9 | 3 => 3 | 4 => 4 | 5 => 5 | 46 => 293 | 146 => 355 | 51 => 323 | n => n,fun | 1 => 0 | n => n⟩
theorem Tryz.lays143 : Go.Proofs.Lays.n143 Tryz.prog Tryz.lays143_ren := {
 mixed := by kernel_rfl
 f143 := Tryz.func232.trans (congrArg some (by kernel_rfl))
 f217 := Tryz.func275.trans (congrArg some (by kernel_rfl))
 f219 := Tryz.func263.trans (congrArg some (by kernel_rfl))
 f224 := Tryz.func277.trans (congrArg some (by kernel_rfl))
 f225 := Tryz.func276.trans (congrArg some (by kernel_rfl))
 f266 := Tryz.func290.trans (congrArg some (by kernel_rfl))
 f267 := Tryz.func278.trans (congrArg some (by kernel_rfl))
 f314 := Tryz.func291.trans (congrArg some (by kernel_rfl))
 t3 := Tryz.underlying3
 a3 := Tryz.isAgg3
 z3 := Tryz.sizeOf3
 v3 := Tryz.zeroValue3
 t4 := Tryz.underlying4
 a4 := Tryz.isAgg4
 z4 := Tryz.sizeOf4
 v4 := Tryz.zeroValue4
 t5 := Tryz.underlying5
 a5 := Tryz.isAgg5
 z5 := Tryz.sizeOf5
 v5 := Tryz.zeroValue5
 t9 := Tryz.underlying9
 a9 := Tryz.isAgg9
 z9 := Tryz.sizeOf9
 v9 := Tryz.zeroValue9
 t46 := Tryz.underlying293
 a46 := Tryz.isAgg293
 z46 := Tryz.sizeOf293
 v46 := Tryz.zeroValue293
 t51 := Tryz.underlying323
 a51 := Tryz.isAgg323
 z51 := Tryz.sizeOf323
 v51 := Tryz.zeroValue323
 t146 := Tryz.underlying355
 a146 := Tryz.isAgg355
 z146 := Tryz.sizeOf355
 v146 := Tryz.zeroValue355
 g1 := by kernel_rfl }
open Go.RowKit Go.Lib in
theorem Tryz.strings_Index_one (s : ByteArray) (c : UInt8) (w : World) :
  Calls Tryz.prog 232 #[.string s,.string ⟨#[c]⟩] w fun e w' => e = .returned (.int .i64 (Lib.indexByte s.data.toList c)) ∧ w' = w := Any.strings_Index_one Tryz.lays143 s c w
open Go.RowKit Go.Lib in
def Tryz.lays138_ren : Go.Shelf.Ren := ⟨fun | 138 => 231 | 195 => 260 | 218 => 262 | 143 => 232 | 219 => 263 | 217 => 275 | 225 => 276 | 224 => 277 | 267 => 278 | 266 => 290 | 314 => 291 | n => n,fun | 9 => 9 | 3 => 3 | 4 => 4 | 5 => 5 | 0 => 0 | 46 => 293 | 146 => 355 | 51 => 323 | n => n,fun | 1 => 0 | n => n⟩
theorem Tryz.lays138 : Go.Proofs.Lays.n138 Tryz.prog Tryz.lays138_ren := {
 mixed := by kernel_rfl
 f138 := Tryz.func231.trans (congrArg some (by kernel_rfl))
 f143 := Tryz.func232.trans (congrArg some (by kernel_rfl))
 f195 := Tryz.func260.trans (congrArg some (by kernel_rfl))
 f217 := Tryz.func275.trans (congrArg some (by kernel_rfl))
 f218 := Tryz.func262.trans (congrArg some (by kernel_rfl))
 f219 := Tryz.func263.trans (congrArg some (by kernel_rfl))
 f224 := Tryz.func277.trans (congrArg some (by kernel_rfl))
 f225 := Tryz.func276.trans (congrArg some (by kernel_rfl))
 f266 := Tryz.func290.trans (congrArg some (by kernel_rfl))
 f267 := Tryz.func278.trans (congrArg some (by kernel_rfl))
 f314 := Tryz.func291.trans (congrArg some (by kernel_rfl))
 t0 := Tryz.underlying0
 a0 := Tryz.isAgg0
 z0 := Tryz.sizeOf0
 v0 := Tryz.zeroValue0
 t3 := Tryz.underlying3
 a3 := Tryz.isAgg3
 z3 := Tryz.sizeOf3
 v3 := Tryz.zeroValue3
 t4 := Tryz.underlying4
 a4 := Tryz.isAgg4
 z4 := Tryz.sizeOf4
 v4 := Tryz.zeroValue4
 t5 := Tryz.underlying5
 a5 := Tryz.isAgg5
 z5 := Tryz.sizeOf5
 v5 := Tryz.zeroValue5
 t9 := Tryz.underlying9
 a9 := Tryz.isAgg9
 z9 := Tryz.sizeOf9
 v9 := Tryz.zeroValue9
 t46 := Tryz.underlying293
 a46 := Tryz.isAgg293
 z46 := Tryz.sizeOf293
 v46 := Tryz.zeroValue293
 t51 := Tryz.underlying323
 a51 := Tryz.isAgg323
 z51 := Tryz.sizeOf323
 v51 := Tryz.zeroValue323
 t146 := Tryz.underlying355
 a146 := Tryz.isAgg355
 z146 := Tryz.sizeOf355
 v146 := Tryz.zeroValue355
 g1 := by kernel_rfl }
open Go.RowKit Go.Lib in
theorem Tryz.strings_Count_one (s : ByteArray) (c : UInt8) (w : World) :
  Calls Tryz.prog 231 #[.string s,.string ⟨#[c]⟩] w fun e w' => e = .returned (.int .i64 (Lib.countByte s.data.toList c)) ∧ w' = w := Any.strings_Count_one Tryz.lays138 s c w
open Go.RowKit Go.Lib in
def Tryz.laysM219_ren : Go.Shelf.Ren := ⟨fun | 219 => 263 | 217 => 275 | 225 => 276 | 224 => 277 | 267 => 278 | 266 => 290 | 314 => 291 | n => n,fun | 9 => 9 | 3 => 3 | 4 => 4 | 5 => 5 | 46 => 293 | 146 => 355 | 51 => 323 | n => n,fun | 1 => 0 | n => n⟩
open Go.RowKit Go.Lib in
def Tryz.laysM143_ren : Go.Shelf.Ren := ⟨fun | 143 => 232 | 219 => 263 | 217 => 275 | 225 => 276 | 224 => 277 | 267 => 278 | 266 => 290 | 314 => 291 | n => n,fun | 9 => 9 | 3 => 3 | 4 => 4 | 5 => 5 | 46 => 293 | 146 => 355 | 51 => 323 | n => n,fun | 1 => 0 | n => n⟩
open Go.RowKit Go.Lib in
def Tryz.laysM138_ren : Go.Shelf.Ren := ⟨fun | 138 => 231 | 195 => 260 | 218 => 262 | 143 => 232 | 219 => 263 | 217 => 275 | 225 => 276 | 224 => 277 | 267 => 278 | 266 => 290 | 314 => 291 | n => n,fun | 9 => 9 | 3 => 3 | 4 => 4 | 5 => 5 | 0 => 0 | 46 => 293 | 146 => 355 | 51 => 323 | n => n,fun | 1 => 0 | n => n⟩
open Go.RowKit Go.Lib in
def Tryz.lays206_ren : Go.Shelf.Ren := ⟨fun | 206 => 229 | n => n,fun | 9 => 9 | 4 => 4 | 3 => 3 | n => n,fun | n => n⟩
open Go.RowKit Go.Lib in
open Go.RowKit Go.Lib in
def Tryz.lays221_ren : Go.Shelf.Ren := ⟨fun | 221 => 190 | 268 => 230 | 138 => 231 | 143 => 232 | 195 => 260 | 197 => 261 | 218 => 262 | 219 => 263 | 260 => 274 | 217 => 275 | 225 => 276 | 224 => 277 | 267 => 278 | 266 => 290 | 314 => 291 | n => n,fun | 9 => 9 | 3 => 3 | 31 => 31 | 4 => 4 | 0 => 0 | 105 => 325 | 21 => 21 | 5 => 5 | 46 => 293 | 119 => 351 | 139 => 354 | 138 => 353 | 146 => 355 | 51 => 323 | n => n,fun | 1 => 0 | 3 => 1 | 4 => 2 | n => n⟩
theorem Tryz.lays221 : Go.Proofs.Lays.n221 Tryz.prog Tryz.lays221_ren := {
 mixed := by kernel_rfl
 f138 := Tryz.func231.trans (congrArg some (by kernel_rfl))
 f143 := Tryz.func232.trans (congrArg some (by kernel_rfl))
 f195 := Tryz.func260.trans (congrArg some (by kernel_rfl))
 f197 := Tryz.func261.trans (congrArg some (by kernel_rfl))
 f217 := Tryz.func275.trans (congrArg some (by kernel_rfl))
 f218 := Tryz.func262.trans (congrArg some (by kernel_rfl))
 f219 := Tryz.func263.trans (congrArg some (by kernel_rfl))
 f221 := Tryz.func190.trans (congrArg some (by kernel_rfl))
 f224 := Tryz.func277.trans (congrArg some (by kernel_rfl))
 f225 := Tryz.func276.trans (congrArg some (by kernel_rfl))
 f260 := Tryz.func274.trans (congrArg some (by kernel_rfl))
 f266 := Tryz.func290.trans (congrArg some (by kernel_rfl))
 f267 := Tryz.func278.trans (congrArg some (by kernel_rfl))
 f268 := Tryz.func230.trans (congrArg some (by kernel_rfl))
 f314 := Tryz.func291.trans (congrArg some (by kernel_rfl))
 t0 := Tryz.underlying0
 a0 := Tryz.isAgg0
 z0 := Tryz.sizeOf0
 v0 := Tryz.zeroValue0
 t3 := Tryz.underlying3
 a3 := Tryz.isAgg3
 z3 := Tryz.sizeOf3
 v3 := Tryz.zeroValue3
 t4 := Tryz.underlying4
 a4 := Tryz.isAgg4
 z4 := Tryz.sizeOf4
 v4 := Tryz.zeroValue4
 t5 := Tryz.underlying5
 a5 := Tryz.isAgg5
 z5 := Tryz.sizeOf5
 v5 := Tryz.zeroValue5
 t9 := Tryz.underlying9
 a9 := Tryz.isAgg9
 z9 := Tryz.sizeOf9
 v9 := Tryz.zeroValue9
 t21 := Tryz.underlying21
 a21 := Tryz.isAgg21
 z21 := Tryz.sizeOf21
 v21 := Tryz.zeroValue21
 t31 := Tryz.underlying31
 a31 := Tryz.isAgg31
 z31 := Tryz.sizeOf31
 v31 := Tryz.zeroValue31
 t46 := Tryz.underlying293
 a46 := Tryz.isAgg293
 z46 := Tryz.sizeOf293
 v46 := Tryz.zeroValue293
 t51 := Tryz.underlying323
 a51 := Tryz.isAgg323
 z51 := Tryz.sizeOf323
 v51 := Tryz.zeroValue323
 t105 := Tryz.underlying325
 a105 := Tryz.isAgg325
 z105 := Tryz.sizeOf325
 v105 := Tryz.zeroValue325
 t119 := Tryz.underlying351
 a119 := Tryz.isAgg351
 z119 := Tryz.sizeOf351
 t138 := Tryz.underlying353
 a138 := Tryz.isAgg353
 z138 := Tryz.sizeOf353
 v138 := Tryz.zeroValue353
 t139 := Tryz.underlying354
 a139 := Tryz.isAgg354
 z139 := Tryz.sizeOf354
 v139 := Tryz.zeroValue354
 t146 := Tryz.underlying355
 a146 := Tryz.isAgg355
 z146 := Tryz.sizeOf355
 v146 := Tryz.zeroValue355
 g1 := by kernel_rfl
 g3 := by kernel_rfl
 g4 := by kernel_rfl }
open Go.RowKit Go.Lib in
def Tryz.lays146_ren : Go.Shelf.Ren := ⟨fun | 146 => 130 | 221 => 190 | 268 => 230 | 138 => 231 | 143 => 232 | 195 => 260 | 197 => 261 | 218 => 262 | 219 => 263 | 260 => 274 | 217 => 275 | 225 => 276 | 224 => 277 | 267 => 278 | 266 => 290 | 314 => 291 | n => n,fun | 9 => 9 | 31 => 31 | 3 => 3 | 4 => 4 | 0 => 0 | 105 => 325 | 21 => 21 | 5 => 5 | 46 => 293 | 119 => 351 | 139 => 354 | 138 => 353 | 146 => 355 | 51 => 323 | n => n,fun | 1 => 0 | 3 => 1 | 4 => 2 | n => n⟩
open Go.RowKit Go.Lib in
def Tryz.laysM146_ren : Go.Shelf.Ren := ⟨fun | 146 => 130 | 221 => 190 | 268 => 230 | 138 => 231 | 143 => 232 | 195 => 260 | 197 => 261 | 218 => 262 | 219 => 263 | 260 => 274 | 217 => 275 | 225 => 276 | 224 => 277 | 267 => 278 | 266 => 290 | 314 => 291 | n => n,fun | 9 => 9 | 31 => 31 | 3 => 3 | 4 => 4 | 0 => 0 | 105 => 325 | 21 => 21 | 5 => 5 | 46 => 293 | 119 => 351 | 139 => 354 | 138 => 353 | 146 => 355 | 51 => 323 | n => n,fun | 1 => 0 | 3 => 1 | 4 => 2 | n => n⟩
open Go.RowKit Go.Lib in
def Tryz.lays197_ren : Go.Shelf.Ren := ⟨fun | 197 => 261 | 260 => 274 | n => n,fun | 9 => 9 | 21 => 21 | 3 => 3 | 4 => 4 | 5 => 5 | 105 => 325 | 119 => 351 | 0 => 0 | 46 => 293 | 139 => 354 | 138 => 353 | n => n,fun | 3 => 1 | 4 => 2 | n => n⟩
open Go.RowKit Go.Lib in
open Go.RowKit Go.Lib in
def Tryz.lays268_ren : Go.Shelf.Ren := ⟨fun | 268 => 230 | 195 => 260 | 197 => 261 | 260 => 274 | n => n,fun | 9 => 9 | 3 => 3 | 31 => 31 | 4 => 4 | 105 => 325 | 21 => 21 | 0 => 0 | 5 => 5 | 119 => 351 | 46 => 293 | 139 => 354 | 138 => 353 | n => n,fun | 3 => 1 | 4 => 2 | n => n⟩
open Go.RowKit Go.Lib in
open Go.RowKit Go.Lib in
open Go.RowKit Go.Lib in
def Tryz.lays260_ren : Go.Shelf.Ren := ⟨fun | 260 => 274 | n => n,fun | 9 => 9 | 21 => 21 | 3 => 3 | 4 => 4 | 5 => 5 | 119 => 351 | 0 => 0 | 46 => 293 | 139 => 354 | 138 => 353 | n => n,fun | 3 => 1 | 4 => 2 | n => n⟩
open Go.RowKit Go.Lib in
open Go.RowKit Go.Lib in
def Tryz.laysSlH6_f220_ren : Go.Shelf.Ren := ⟨fun | 6 => 220 | n => n,fun | 22 => 72 | 23 => 3 | 25 => 100 | 3 => 3 | 0 => 0 | 4 => 4 | n => n,fun | n => n⟩
open Go.RowKit Go.Lib in
open Go.RowKit Go.Lib in
def Tryz.laysSlH8_f170_ren : Go.Shelf.Ren := ⟨fun | 8 => 170 | 6 => 220 | n => n,fun | 22 => 72 | 23 => 3 | 25 => 100 | 4 => 4 | 3 => 3 | 0 => 0 | n => n,fun | n => n⟩
theorem Tryz.laysSlH8_f170 : Go.Proofs.SlLaysH.n8 Tryz.prog Tryz.laysSlH8_f170_ren := {
 mixed := by kernel_rfl
 f6 := ⟨Tryz.f220.name,by decide,Tryz.func220.trans (congrArg some (by kernel_rfl))⟩
 f8 := ⟨Tryz.f170.name,by decide,Tryz.func170.trans (congrArg some (by kernel_rfl))⟩
 t0 := Tryz.underlying0
 a0 := Tryz.isAgg0
 z0 := Tryz.sizeOf0
 v0 := Tryz.zeroValue0
 t3 := Tryz.underlying3
 a3 := Tryz.isAgg3
 z3 := Tryz.sizeOf3
 v3 := Tryz.zeroValue3
 t4 := Tryz.underlying4
 a4 := Tryz.isAgg4
 z4 := Tryz.sizeOf4
 v4 := Tryz.zeroValue4
 t22 := Tryz.underlying72
 a22 := Tryz.isAgg72
 z22 := Tryz.sizeOf72
 v22 := Tryz.zeroValue72
 a23 := Tryz.isAgg3
 z23 := Tryz.sizeOf3
 t25 := Tryz.underlying100
 a25 := Tryz.isAgg100
 z25 := Tryz.sizeOf100
 v25 := Tryz.zeroValue100 }
open Go.RowKit Go.Lib in
theorem Tryz.slices_ContainsFunc {α : Type} [Inhabited α] (enc : α -> Value) (p : α -> Bool) (g : Nat) (lb : Array Value) (eg : ∀ args w,(callFunc g args).run Tryz.prog w = .ok (.enter g args) w) (b off n c : Nat) (zs : List α) (w : World) (hp : PredAt Tryz.prog g lb enc p w) (hz : n <= zs.length) (hbig : n <= 9223372036854775807) (hc : ∀ j,j < zs.length -> w.cell? ⟨b,off + j,none⟩ = some (enc zs[j]!)) :
  Calls Tryz.prog 170 #[.slice (some ⟨b,off,none⟩) n c,.func (.func g) #[] lb] w fun e w' => e = .returned (.bool ((zs.take n).any p)) ∧ ∃ q,w' = w.drewN q := AnyE.slices_ContainsFunc Tryz.laysSlH8_f170 enc p g lb eg b off n c zs w hp hz hbig hc
open Go.RowKit Go.Lib in
theorem Tryz.slices_ContainsFunc_empty {α : Type} [Inhabited α] (a : Option Addr) (c : Nat) (fv : Value) (w : World) :
  Calls Tryz.prog 170 #[.slice a 0 c,fv] w fun e w' => e = .returned (.bool false) ∧ w' = w := AnyE.slices_ContainsFunc_empty Tryz.laysSlH8_f170 a c fv w
def Tryz.containsByte_ren : Go.Shelf.Ren := ⟨fun | 8 => 122 | 6 => 181 | n => n,fun | 22 => 26 | 23 => 5 | 25 => 202 | 4 => 4 | 3 => 3 | 0 => 0 | n => n,fun | n => n⟩
theorem Tryz.containsByte : Go.Proofs.SlLaysH.n8 Tryz.prog Tryz.containsByte_ren := {
 mixed := by kernel_rfl
 f6 := ⟨Tryz.f181.name,by decide,Tryz.func181.trans (congrArg some (by kernel_rfl))⟩
 f8 := ⟨Tryz.f122.name,by decide,Tryz.func122.trans (congrArg some (by kernel_rfl))⟩
 t0 := Tryz.underlying0
 a0 := Tryz.isAgg0
 z0 := Tryz.sizeOf0
 v0 := Tryz.zeroValue0
 t3 := Tryz.underlying3
 a3 := Tryz.isAgg3
 z3 := Tryz.sizeOf3
 v3 := Tryz.zeroValue3
 t4 := Tryz.underlying4
 a4 := Tryz.isAgg4
 z4 := Tryz.sizeOf4
 v4 := Tryz.zeroValue4
 t22 := Tryz.underlying26
 a22 := Tryz.isAgg26
 z22 := Tryz.sizeOf26
 v22 := Tryz.zeroValue26
 a23 := Tryz.isAgg5
 z23 := Tryz.sizeOf5
 t25 := Tryz.underlying202
 a25 := Tryz.isAgg202
 z25 := Tryz.sizeOf202
 v25 := Tryz.zeroValue202 }
def Tryz.cloneByte_ren : Go.Shelf.Ren := ⟨fun | 41 => 120 | n => n,fun | 22 => 26 | 23 => 5 | 4 => 4 | n => n,fun | n => n⟩
theorem Tryz.cloneByte : Go.Proofs.SlLaysE0.n41 Tryz.prog Tryz.cloneByte_ren := {
 mixed := by kernel_rfl
 f41 := ⟨Tryz.f120.name,by decide,Tryz.func120.trans (congrArg some (by kernel_rfl))⟩
 t4 := Tryz.underlying4
 a4 := Tryz.isAgg4
 z4 := Tryz.sizeOf4
 v4 := Tryz.zeroValue4
 t22 := Tryz.underlying26
 a22 := Tryz.isAgg26
 z22 := Tryz.sizeOf26
 v22 := Tryz.zeroValue26 }
def Tryz.reverseByte_ren : Go.Shelf.Ren := ⟨fun | 35 => 238 | n => n,fun | 22 => 26 | 23 => 5 | 3 => 3 | 4 => 4 | 0 => 0 | n => n,fun | n => n⟩
theorem Tryz.reverseByte : Go.Proofs.SlLaysE.n35 Tryz.prog Tryz.reverseByte_ren := {
 mixed := by kernel_rfl
 f35 := ⟨Tryz.f238.name,by decide,Tryz.func238.trans (congrArg some (by kernel_rfl))⟩
 t0 := Tryz.underlying0
 a0 := Tryz.isAgg0
 z0 := Tryz.sizeOf0
 v0 := Tryz.zeroValue0
 t3 := Tryz.underlying3
 a3 := Tryz.isAgg3
 z3 := Tryz.sizeOf3
 v3 := Tryz.zeroValue3
 t4 := Tryz.underlying4
 a4 := Tryz.isAgg4
 z4 := Tryz.sizeOf4
 v4 := Tryz.zeroValue4
 t22 := Tryz.underlying26
 a22 := Tryz.isAgg26
 z22 := Tryz.sizeOf26
 v22 := Tryz.zeroValue26
 a23 := Tryz.isAgg5
 z23 := Tryz.sizeOf5 }
def Tryz.containsInt_ren : Go.Shelf.Ren := ⟨fun | 8 => 170 | 6 => 220 | n => n,fun | 22 => 72 | 23 => 3 | 25 => 100 | 4 => 4 | 3 => 3 | 0 => 0 | n => n,fun | n => n⟩
theorem Tryz.containsInt : Go.Proofs.SlLaysH.n8 Tryz.prog Tryz.containsInt_ren := {
 mixed := by kernel_rfl
 f6 := ⟨Tryz.f220.name,by decide,Tryz.func220.trans (congrArg some (by kernel_rfl))⟩
 f8 := ⟨Tryz.f170.name,by decide,Tryz.func170.trans (congrArg some (by kernel_rfl))⟩
 t0 := Tryz.underlying0
 a0 := Tryz.isAgg0
 z0 := Tryz.sizeOf0
 v0 := Tryz.zeroValue0
 t3 := Tryz.underlying3
 a3 := Tryz.isAgg3
 z3 := Tryz.sizeOf3
 v3 := Tryz.zeroValue3
 t4 := Tryz.underlying4
 a4 := Tryz.isAgg4
 z4 := Tryz.sizeOf4
 v4 := Tryz.zeroValue4
 t22 := Tryz.underlying72
 a22 := Tryz.isAgg72
 z22 := Tryz.sizeOf72
 v22 := Tryz.zeroValue72
 a23 := Tryz.isAgg3
 z23 := Tryz.sizeOf3
 t25 := Tryz.underlying100
 a25 := Tryz.isAgg100
 z25 := Tryz.sizeOf100
 v25 := Tryz.zeroValue100 }
end Go.Proofs
