/- The laws ModelEquals and ModelChecks as calls, at whatever arguments. Conditions: none. -/
import Derived.Test.YtibpagmpdgflmaaGreatDoorZX0
import Derived.Test.YtibpagmpdgflmaaGreatDoorZYU
namespace Go.Proofs.YtibpagmpdgflmaaGreatDoor
open Go.RowKit

theorem modelEquals_any (a0 a1 a2 a3 : Int) (NA : Option Addr) (nn nc : Nat) (xs : List ByteArray) (BA : Option Addr) (bn bc : Nat) (u : List UInt8) (b0 b1 b2 b3 : Int) (NB : Option Addr) (mn mc : Nat) (ys : List ByteArray) (BB : Option Addr) (cn cc : Nat) (v : List UInt8) (W : World)
    (h1 : xs.length = nn) (g1 : nn ≤ nc) (g2 : nc ≤ maxLen) (r1 : RowAt W NA (xs.map .string)) (h3 : u.length = bn) (g3 : bn ≤ bc) (g4 : bc ≤ maxLen) (r3 : RowAt W BA (u.map encB))
    (h2 : ys.length = mn) (g5 : mn ≤ mc) (g6 : mc ≤ maxLen) (r2 : RowAt W NB (ys.map .string)) (h4 : v.length = cn) (g7 : cn ≤ cc) (g8 : cc ≤ maxLen) (r4 : RowAt W BB (v.map encB)) :
    Calls Tryz.prog 3 #[.agg #[.int .i64 a0, .int .i64 a1, .int .i64 a2, .int .i64 a3, .slice NA nn nc, .slice BA bn bc], .agg #[.int .i64 b0, .int .i64 b1, .int .i64 b2, .int .i64 b3, .slice NB mn mc, .slice BB cn cc]] W fun e W' => e = .returned (.bool true) ∧ Below W.heap.size W W' :=
  modelEquals_of works11_any a0 a1 a2 a3 NA nn nc xs BA bn bc u b0 b1 b2 b3 NB mn mc ys BB cn cc v W h1 (Nat.le_trans g1 g2) r1 h3 (Nat.le_trans g3 g4) r3 h2 (Nat.le_trans g5 g6) r2 h4 (Nat.le_trans g7 g8) r4
theorem modelChecks_any (k : Int) (p d : ByteArray) (a n : Int) (A : Option Addr) (m c : Nat) (bs : List UInt8) (W : World) (hk : -9223372036854775808 ≤ k ∧ k < 9223372036854775808) (ha : a < 9223372036854775808) (hn : n < 9223372036854775808)
    (hl : bs.length = m) (hmc : m ≤ c) (hc : c ≤ maxLen) (hrow : RowAt W A (bs.map encB)) :
    Calls Tryz.prog 4 #[.agg #[.int .i64 k, .string p, .string d, .int .i64 a, .int .i64 n, .slice A m c]] W fun e W' => e = .returned (.bool true) ∧ Below W.heap.size W W' :=
  modelChecks_of works11_any k p d a n A m c bs W hk ha hn hl hmc hc hrow
end Go.Proofs.YtibpagmpdgflmaaGreatDoor
