/-
  NARROWER THAN 'FOR EVERY INPUT', by the rows' own cells (each row's printed sentence says how): LookLong: laid · LookHolds: laid · LookBegins: laid · LookRuns: laid.
  DERIVED. THE GIVEN ROWS OF THIS SEAT. 4 by the template 'for every input the law returns true; each argument reads behind the call as it read before'; 0 by the template 'total and deterministic' (their statements: YtdpooagnbmpinaaGreatDoorTotals.lean).
  GIVEN WITH THE SEED: the statements are not yours to turn. If you find one false, say at which input.
  Laid BY PROGRAM, IN A SANDBOX (cutbox-rows.mjs): the forced cells as the released guide's own fill.sh prints them over the translation 550646f7e91e89e8… (all of the seat's roots in one cut). By AI agents, Wed Nov 11 2026. No macro, syntax, notation, axiom, sorry.
-/
import Derived.Test.YtdpooagnbmpinaaGreatDoorChecked
import GoSem.PinnedTables
import GoSem.Claim
import GoSem.ClaimJoined
import GoSem.ClaimMapViews
import Derived.JoinedTies
import Derived.KernelRfl
namespace Go.Proofs.YtdpooagnbmpinaaGreatDoor
/- THE CELL 'sum', in the pinned program and in every row, IS THE sha256 OF THE DUMP (.gsa) THAT YtdpooagnbmpinaaGreatDoorProg.lean LOADS. Nothing in Lean hashes anything: it is a label: what it is worth is what the hold of that sum in a sandbox is worth. -/
noncomputable def Tryz.pinned : Pinned := { name := "ytdpooagnbmpinaagreatdoor", sum := "550646f7e91e89e892c7f98da70a61dd7e6929a2dd2b203ee6d8130113691a05", checked := Tryz.checked }
namespace Rows
def none {H : Type} : Left H := { results := [], args := [] }

/- WHAT THE LISTED PACKAGE-LEVEL VARIABLES READ AS WHEN THE CALL BEGINS. Each datum BY PROGRAM (the guide's laid-datum.mjs) off the statement by which the dump's own 'gosem.cut.vars' lays the variable. In a bare row this is a premise. The card (YtdpooagnbmpinaaGreatDoorCards.lean) ties it to the program's text. -/
def laid_unicode_utf8_acceptRanges {H : Type} : DataW H := .agg [.agg [.lit (.int .u8 128), .lit (.int .u8 191)], .agg [.lit (.int .u8 160), .lit (.int .u8 191)], .agg [.lit (.int .u8 128), .lit (.int .u8 159)], .agg [.lit (.int .u8 144), .lit (.int .u8 191)], .agg [.lit (.int .u8 128), .lit (.int .u8 143)], .agg [.lit (.int .u8 0), .lit (.int .u8 0)], .agg [.lit (.int .u8 0), .lit (.int .u8 0)], .agg [.lit (.int .u8 0), .lit (.int .u8 0)], .agg [.lit (.int .u8 0), .lit (.int .u8 0)], .agg [.lit (.int .u8 0), .lit (.int .u8 0)], .agg [.lit (.int .u8 0), .lit (.int .u8 0)], .agg [.lit (.int .u8 0), .lit (.int .u8 0)], .agg [.lit (.int .u8 0), .lit (.int .u8 0)], .agg [.lit (.int .u8 0), .lit (.int .u8 0)], .agg [.lit (.int .u8 0), .lit (.int .u8 0)], .agg [.lit (.int .u8 0), .lit (.int .u8 0)]]
/-- One of Go's own tables, pinned by name: the form's constant. -/
def laid_unicode_utf8_first : DataW Unit := Go.Pinned.utf8First

/-- 'waterlinelaw22.LookLong': WHATEVER THE INPUT: true; the input reads as it did. -/
def lookLongSpec : ChangeSpec := { name := "lookLong", fn := fun _ => fun
  | [d1, d2] => { results := [.lit (.bool true)], args := [d1, d2] }
  | _ => none }
def lookLongRow : OpenClaim := { program := "ytdpooagnbmpinaagreatdoor", sum := "550646f7e91e89e892c7f98da70a61dd7e6929a2dd2b203ee6d8130113691a05", func := "waterline/waterlinelaw22.LookLong", spec := "lookLong", inPlace := ["internal/bytealg.CountString", "internal/bytealg.IndexByteString", "internal/bytealg.IndexString", "internal/bytealg.abigen_runtime_cmpstring"], unfollowed := true, recurses := true, named := ["unicode/utf8.first", "unicode/utf8.acceptRanges", "internal/bytealg.MaxLen"], apart := false, laid := [("unicode/utf8.acceptRanges", laid_unicode_utf8_acceptRanges), ("unicode/utf8.first", laid_unicode_utf8_first)] }
def LookLongSaid : Prop := lookLongRow.holds Tryz.pinned (OpenSpec.ofChange lookLongSpec)

/-- ITS FALSE NEIGHBOUR: 'it returns false'. Refute it at one input. -/
def lookLongWrong : ChangeSpec := { name := "lookLong", fn := fun _ => fun
  | [d1, d2] => { results := [.lit (.bool false)], args := [d1, d2] }
  | _ => none }
def LookLongWrongFalsely : Prop := lookLongRow.holds Tryz.pinned (OpenSpec.ofChange lookLongWrong)

/-- 'waterlinelaw22.LookHolds': WHATEVER THE INPUT: true; the input reads as it did. -/
def lookHoldsSpec : ChangeSpec := { name := "lookHolds", fn := fun _ => fun
  | [d1, d2, d3] => { results := [.lit (.bool true)], args := [d1, d2, d3] }
  | _ => none }
def lookHoldsRow : OpenClaim := { program := "ytdpooagnbmpinaagreatdoor", sum := "550646f7e91e89e892c7f98da70a61dd7e6929a2dd2b203ee6d8130113691a05", func := "waterline/waterlinelaw22.LookHolds", spec := "lookHolds", inPlace := ["internal/bytealg.CountString", "internal/bytealg.IndexByteString", "internal/bytealg.IndexString", "internal/bytealg.abigen_runtime_cmpstring"], unfollowed := true, recurses := true, named := ["unicode/utf8.first", "unicode/utf8.acceptRanges", "internal/bytealg.MaxLen"], apart := false, laid := [("unicode/utf8.acceptRanges", laid_unicode_utf8_acceptRanges), ("unicode/utf8.first", laid_unicode_utf8_first)] }
def LookHoldsSaid : Prop := lookHoldsRow.holds Tryz.pinned (OpenSpec.ofChange lookHoldsSpec)

/-- ITS FALSE NEIGHBOUR: 'it returns false'. Refute it at one input. -/
def lookHoldsWrong : ChangeSpec := { name := "lookHolds", fn := fun _ => fun
  | [d1, d2, d3] => { results := [.lit (.bool false)], args := [d1, d2, d3] }
  | _ => none }
def LookHoldsWrongFalsely : Prop := lookHoldsRow.holds Tryz.pinned (OpenSpec.ofChange lookHoldsWrong)

/-- 'waterlinelaw22.LookBegins': WHATEVER THE INPUT: true; the input reads as it did. -/
def lookBeginsSpec : ChangeSpec := { name := "lookBegins", fn := fun _ => fun
  | [d1, d2] => { results := [.lit (.bool true)], args := [d1, d2] }
  | _ => none }
def lookBeginsRow : OpenClaim := { program := "ytdpooagnbmpinaagreatdoor", sum := "550646f7e91e89e892c7f98da70a61dd7e6929a2dd2b203ee6d8130113691a05", func := "waterline/waterlinelaw22.LookBegins", spec := "lookBegins", inPlace := ["internal/bytealg.CountString", "internal/bytealg.IndexByteString", "internal/bytealg.IndexString", "internal/bytealg.abigen_runtime_cmpstring"], unfollowed := true, recurses := true, named := ["unicode/utf8.first", "unicode/utf8.acceptRanges", "internal/bytealg.MaxLen"], apart := false, laid := [("unicode/utf8.acceptRanges", laid_unicode_utf8_acceptRanges), ("unicode/utf8.first", laid_unicode_utf8_first)] }
def LookBeginsSaid : Prop := lookBeginsRow.holds Tryz.pinned (OpenSpec.ofChange lookBeginsSpec)

/-- ITS FALSE NEIGHBOUR: 'it returns false'. Refute it at one input. -/
def lookBeginsWrong : ChangeSpec := { name := "lookBegins", fn := fun _ => fun
  | [d1, d2] => { results := [.lit (.bool false)], args := [d1, d2] }
  | _ => none }
def LookBeginsWrongFalsely : Prop := lookBeginsRow.holds Tryz.pinned (OpenSpec.ofChange lookBeginsWrong)

/-- 'waterlinelaw22.LookRuns': WHATEVER THE INPUT: true; the input reads as it did. -/
def lookRunsSpec : ChangeSpec := { name := "lookRuns", fn := fun _ => fun
  | [d1, d2] => { results := [.lit (.bool true)], args := [d1, d2] }
  | _ => none }
def lookRunsRow : OpenClaim := { program := "ytdpooagnbmpinaagreatdoor", sum := "550646f7e91e89e892c7f98da70a61dd7e6929a2dd2b203ee6d8130113691a05", func := "waterline/waterlinelaw22.LookRuns", spec := "lookRuns", inPlace := ["internal/bytealg.CountString", "internal/bytealg.IndexByteString", "internal/bytealg.IndexString", "internal/bytealg.abigen_runtime_cmpstring"], unfollowed := true, recurses := true, named := ["unicode/utf8.first", "unicode/utf8.acceptRanges", "internal/bytealg.MaxLen"], apart := false, laid := [("unicode/utf8.acceptRanges", laid_unicode_utf8_acceptRanges), ("unicode/utf8.first", laid_unicode_utf8_first)] }
def LookRunsSaid : Prop := lookRunsRow.holds Tryz.pinned (OpenSpec.ofChange lookRunsSpec)

/-- ITS FALSE NEIGHBOUR: 'it returns false'. Refute it at one input. -/
def lookRunsWrong : ChangeSpec := { name := "lookRuns", fn := fun _ => fun
  | [d1, d2] => { results := [.lit (.bool false)], args := [d1, d2] }
  | _ => none }
def LookRunsWrongFalsely : Prop := lookRunsRow.holds Tryz.pinned (OpenSpec.ofChange lookRunsWrong)

/- THE SECOND FORM. 'bulk': how many values and letters a reading holds, each counted each time it is reached (what is shared counts as often as it is met; a slice's spare places count too). A statement '..UptoSaid' is the law's where the arguments, and the package variables that the reading takes, are together of bulk at most 1048576: NARROWER than '..Said'. Prove '..Said' where nothing that the law and all that it calls make is longer than what came in: it says more and counts as full. Else prove '..UptoSaid'. A law counts once. -/
mutual
def uptoBulk {H : Type} : DataW H → Nat
  | .lit (.string bytes) => bytes.length + 1
  | .lit _ => 1
  | .nil => 1
  | .ptr d => uptoBulk d + 1
  | .slice elems spare => uptoBulkAll elems + uptoBulkAll spare + 1
  | .agg parts => uptoBulkAll parts + 1
  | .iface _ d => uptoBulk d + 1
  | .map entries => uptoBulkEntries entries + 1
  | .held _ => 1
def uptoBulkAll {H : Type} : List (DataW H) → Nat
  | [] => 0
  | d :: r => uptoBulk d + uptoBulkAll r
def uptoBulkEntries {H : Type} : List (Lit × DataW H) → Nat
  | [] => 0
  | x :: r => uptoBulkEntry x + uptoBulkEntries r
def uptoBulkEntry {H : Type} : Lit × DataW H → Nat
  | (.string bytes, d) => bytes.length + uptoBulk d + 1
  | (_, d) => uptoBulk d + 1
 end
def uptoSmall : (H : Type) → List (DataW H) → Bool := fun _ ds => decide (uptoBulkAll ds ≤ 1048576)
def OpenSpec.upto (s : _root_.Go.ChangeSpec) : _root_.Go.OpenSpec := { _root_.Go.OpenSpec.ofChange s with cond := some uptoSmall }

/-- 'waterlinelaw22.LookLong', WHERE WHAT IT READS IS OF BULK AT MOST 1048576: true; the input reads as it did. -/
def lookLongUptoRow : OpenClaim := { program := "ytdpooagnbmpinaagreatdoor", sum := "550646f7e91e89e892c7f98da70a61dd7e6929a2dd2b203ee6d8130113691a05", func := "waterline/waterlinelaw22.LookLong", spec := "lookLong", inPlace := ["internal/bytealg.CountString", "internal/bytealg.IndexByteString", "internal/bytealg.IndexString", "internal/bytealg.abigen_runtime_cmpstring"], unfollowed := true, recurses := true, named := ["unicode/utf8.first", "unicode/utf8.acceptRanges", "internal/bytealg.MaxLen"], apart := false, laid := [("unicode/utf8.acceptRanges", laid_unicode_utf8_acceptRanges), ("unicode/utf8.first", laid_unicode_utf8_first)], narrowed := true }
def LookLongUptoSaid : Prop := lookLongUptoRow.holds Tryz.pinned (OpenSpec.upto lookLongSpec)

/-- 'waterlinelaw22.LookHolds', WHERE WHAT IT READS IS OF BULK AT MOST 1048576: true; the input reads as it did. -/
def lookHoldsUptoRow : OpenClaim := { program := "ytdpooagnbmpinaagreatdoor", sum := "550646f7e91e89e892c7f98da70a61dd7e6929a2dd2b203ee6d8130113691a05", func := "waterline/waterlinelaw22.LookHolds", spec := "lookHolds", inPlace := ["internal/bytealg.CountString", "internal/bytealg.IndexByteString", "internal/bytealg.IndexString", "internal/bytealg.abigen_runtime_cmpstring"], unfollowed := true, recurses := true, named := ["unicode/utf8.first", "unicode/utf8.acceptRanges", "internal/bytealg.MaxLen"], apart := false, laid := [("unicode/utf8.acceptRanges", laid_unicode_utf8_acceptRanges), ("unicode/utf8.first", laid_unicode_utf8_first)], narrowed := true }
def LookHoldsUptoSaid : Prop := lookHoldsUptoRow.holds Tryz.pinned (OpenSpec.upto lookHoldsSpec)

/-- 'waterlinelaw22.LookBegins', WHERE WHAT IT READS IS OF BULK AT MOST 1048576: true; the input reads as it did. -/
def lookBeginsUptoRow : OpenClaim := { program := "ytdpooagnbmpinaagreatdoor", sum := "550646f7e91e89e892c7f98da70a61dd7e6929a2dd2b203ee6d8130113691a05", func := "waterline/waterlinelaw22.LookBegins", spec := "lookBegins", inPlace := ["internal/bytealg.CountString", "internal/bytealg.IndexByteString", "internal/bytealg.IndexString", "internal/bytealg.abigen_runtime_cmpstring"], unfollowed := true, recurses := true, named := ["unicode/utf8.first", "unicode/utf8.acceptRanges", "internal/bytealg.MaxLen"], apart := false, laid := [("unicode/utf8.acceptRanges", laid_unicode_utf8_acceptRanges), ("unicode/utf8.first", laid_unicode_utf8_first)], narrowed := true }
def LookBeginsUptoSaid : Prop := lookBeginsUptoRow.holds Tryz.pinned (OpenSpec.upto lookBeginsSpec)

/-- 'waterlinelaw22.LookRuns', WHERE WHAT IT READS IS OF BULK AT MOST 1048576: true; the input reads as it did. -/
def lookRunsUptoRow : OpenClaim := { program := "ytdpooagnbmpinaagreatdoor", sum := "550646f7e91e89e892c7f98da70a61dd7e6929a2dd2b203ee6d8130113691a05", func := "waterline/waterlinelaw22.LookRuns", spec := "lookRuns", inPlace := ["internal/bytealg.CountString", "internal/bytealg.IndexByteString", "internal/bytealg.IndexString", "internal/bytealg.abigen_runtime_cmpstring"], unfollowed := true, recurses := true, named := ["unicode/utf8.first", "unicode/utf8.acceptRanges", "internal/bytealg.MaxLen"], apart := false, laid := [("unicode/utf8.acceptRanges", laid_unicode_utf8_acceptRanges), ("unicode/utf8.first", laid_unicode_utf8_first)], narrowed := true }
def LookRunsUptoSaid : Prop := lookRunsUptoRow.holds Tryz.pinned (OpenSpec.upto lookRunsSpec)

end Rows
end Go.Proofs.YtdpooagnbmpinaaGreatDoor
