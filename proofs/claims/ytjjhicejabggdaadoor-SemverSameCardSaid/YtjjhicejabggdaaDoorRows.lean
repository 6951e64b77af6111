/-
  NARROWER THAN 'FOR EVERY INPUT', by the rows' own cells (each row's printed sentence says how): SemverTotal: laid · SemverNext: laid · SemverOrders: laid · SemverParses: laid · SemverPlain: laid · SemverMajor: laid · SemverSorts: laid · SemverSame: laid.
  DERIVED. THE GIVEN ROWS OF THIS SEAT. 8 by the template 'for every input the law returns true; each argument reads behind the call as it read before'; 0 by the template 'total and deterministic' (their statements: YtjjhicejabggdaaDoorTotals.lean).
  GIVEN WITH THE SEED: the statements are not yours to turn. If you find one false, say at which input.
  Laid BY PROGRAM, IN A SANDBOX (cutbox-rows.mjs): the forced cells as the released guide's own fill.sh prints them over the translation f7b892d7624b1875… (all of the seat's roots in one cut). By AI agents, Wed Nov 11 2026. No macro, syntax, notation, axiom, sorry.
-/
import Derived.Test.YtjjhicejabggdaaDoorChecked
import GoSem.PinnedTables
import GoSem.Claim
import GoSem.ClaimJoined
import GoSem.ClaimMapViews
import Derived.JoinedTies
import Derived.KernelRfl
namespace Go.Proofs.YtjjhicejabggdaaDoor
/- THE CELL 'sum', in the pinned program and in every row, IS THE sha256 OF THE DUMP (.gsa) THAT YtjjhicejabggdaaDoorProg.lean LOADS. Nothing in Lean hashes anything: it is a label: what it is worth is what the hold of that sum in a sandbox is worth. -/
noncomputable def Tryd.pinned : Pinned := { name := "ytjjhicejabggdaadoor", sum := "f7b892d7624b18755dbcbc8fc3a53e48a61c37ddf666d571841a1f31da35bbd7", checked := Tryd.checked }
namespace Rows
def none {H : Type} : Left H := { results := [], args := [] }

/- WHAT THE LISTED PACKAGE-LEVEL VARIABLES READ AS WHEN THE CALL BEGINS. Each datum BY PROGRAM (the guide's laid-datum.mjs) off the statement by which the dump's own 'gosem.cut.vars' lays the variable. In a bare row this is a premise. The card (YtjjhicejabggdaaDoorCards.lean) ties it to the program's text. -/
def laid_unicode_utf8_acceptRanges {H : Type} : DataW H := .agg [.agg [.lit (.int .u8 128), .lit (.int .u8 191)], .agg [.lit (.int .u8 160), .lit (.int .u8 191)], .agg [.lit (.int .u8 128), .lit (.int .u8 159)], .agg [.lit (.int .u8 144), .lit (.int .u8 191)], .agg [.lit (.int .u8 128), .lit (.int .u8 143)], .agg [.lit (.int .u8 0), .lit (.int .u8 0)], .agg [.lit (.int .u8 0), .lit (.int .u8 0)], .agg [.lit (.int .u8 0), .lit (.int .u8 0)], .agg [.lit (.int .u8 0), .lit (.int .u8 0)], .agg [.lit (.int .u8 0), .lit (.int .u8 0)], .agg [.lit (.int .u8 0), .lit (.int .u8 0)], .agg [.lit (.int .u8 0), .lit (.int .u8 0)], .agg [.lit (.int .u8 0), .lit (.int .u8 0)], .agg [.lit (.int .u8 0), .lit (.int .u8 0)], .agg [.lit (.int .u8 0), .lit (.int .u8 0)], .agg [.lit (.int .u8 0), .lit (.int .u8 0)]]
/-- One of Go's own tables, pinned by name: the form's constant. -/
def laid_unicode_utf8_first : DataW Unit := Go.Pinned.utf8First

/-- 'cartularylaw20.SemverTotal': WHATEVER THE INPUT: true; the input reads as it did. -/
def semverTotalSpec : ChangeSpec := { name := "semverTotal", fn := fun _ => fun
  | [d1, d2, d3] => { results := [.lit (.bool true)], args := [d1, d2, d3] }
  | _ => none }
def semverTotalRow : OpenClaim := { program := "ytjjhicejabggdaadoor", sum := "f7b892d7624b18755dbcbc8fc3a53e48a61c37ddf666d571841a1f31da35bbd7", func := "cartulary/cartularylaw20.SemverTotal", spec := "semverTotal", inPlace := ["internal/bytealg.IndexByteString", "internal/bytealg.IndexString", "internal/bytealg.abigen_runtime_cmpstring"], unfollowed := true, recurses := true, named := ["internal/bytealg.MaxLen", "unicode/utf8.first", "unicode/utf8.acceptRanges"], apart := false, laid := [("unicode/utf8.acceptRanges", laid_unicode_utf8_acceptRanges), ("unicode/utf8.first", laid_unicode_utf8_first)] }
def SemverTotalSaid : Prop := semverTotalRow.holds Tryd.pinned (OpenSpec.ofChange semverTotalSpec)

/-- ITS FALSE NEIGHBOUR: 'it returns false'. Refute it at one input. -/
def semverTotalWrong : ChangeSpec := { name := "semverTotal", fn := fun _ => fun
  | [d1, d2, d3] => { results := [.lit (.bool false)], args := [d1, d2, d3] }
  | _ => none }
def SemverTotalWrongFalsely : Prop := semverTotalRow.holds Tryd.pinned (OpenSpec.ofChange semverTotalWrong)

/-- 'cartularylaw20.SemverNext': WHATEVER THE INPUT: true; the input reads as it did. -/
def semverNextSpec : ChangeSpec := { name := "semverNext", fn := fun _ => fun
  | [d1, d2] => { results := [.lit (.bool true)], args := [d1, d2] }
  | _ => none }
def semverNextRow : OpenClaim := { program := "ytjjhicejabggdaadoor", sum := "f7b892d7624b18755dbcbc8fc3a53e48a61c37ddf666d571841a1f31da35bbd7", func := "cartulary/cartularylaw20.SemverNext", spec := "semverNext", inPlace := ["internal/bytealg.IndexByteString", "internal/bytealg.IndexString", "internal/bytealg.abigen_runtime_cmpstring"], unfollowed := true, recurses := true, named := ["internal/bytealg.MaxLen", "unicode/utf8.first", "unicode/utf8.acceptRanges"], apart := false, laid := [("unicode/utf8.acceptRanges", laid_unicode_utf8_acceptRanges), ("unicode/utf8.first", laid_unicode_utf8_first)] }
def SemverNextSaid : Prop := semverNextRow.holds Tryd.pinned (OpenSpec.ofChange semverNextSpec)

/-- ITS FALSE NEIGHBOUR: 'it returns false'. Refute it at one input. -/
def semverNextWrong : ChangeSpec := { name := "semverNext", fn := fun _ => fun
  | [d1, d2] => { results := [.lit (.bool false)], args := [d1, d2] }
  | _ => none }
def SemverNextWrongFalsely : Prop := semverNextRow.holds Tryd.pinned (OpenSpec.ofChange semverNextWrong)

/-- 'cartularylaw20.SemverOrders': WHATEVER THE INPUT: true; the input reads as it did. -/
def semverOrdersSpec : ChangeSpec := { name := "semverOrders", fn := fun _ => fun
  | [d1, d2] => { results := [.lit (.bool true)], args := [d1, d2] }
  | _ => none }
def semverOrdersRow : OpenClaim := { program := "ytjjhicejabggdaadoor", sum := "f7b892d7624b18755dbcbc8fc3a53e48a61c37ddf666d571841a1f31da35bbd7", func := "cartulary/cartularylaw20.SemverOrders", spec := "semverOrders", inPlace := ["internal/bytealg.IndexByteString", "internal/bytealg.IndexString", "internal/bytealg.abigen_runtime_cmpstring"], unfollowed := true, recurses := true, named := ["internal/bytealg.MaxLen", "unicode/utf8.first", "unicode/utf8.acceptRanges"], apart := false, laid := [("unicode/utf8.acceptRanges", laid_unicode_utf8_acceptRanges), ("unicode/utf8.first", laid_unicode_utf8_first)] }
def SemverOrdersSaid : Prop := semverOrdersRow.holds Tryd.pinned (OpenSpec.ofChange semverOrdersSpec)

/-- ITS FALSE NEIGHBOUR: 'it returns false'. Refute it at one input. -/
def semverOrdersWrong : ChangeSpec := { name := "semverOrders", fn := fun _ => fun
  | [d1, d2] => { results := [.lit (.bool false)], args := [d1, d2] }
  | _ => none }
def SemverOrdersWrongFalsely : Prop := semverOrdersRow.holds Tryd.pinned (OpenSpec.ofChange semverOrdersWrong)

/-- 'cartularylaw20.SemverParses': WHATEVER THE INPUT: true; the input reads as it did. -/
def semverParsesSpec : ChangeSpec := { name := "semverParses", fn := fun _ => fun
  | [d] => { results := [.lit (.bool true)], args := [d] }
  | _ => none }
def semverParsesRow : OpenClaim := { program := "ytjjhicejabggdaadoor", sum := "f7b892d7624b18755dbcbc8fc3a53e48a61c37ddf666d571841a1f31da35bbd7", func := "cartulary/cartularylaw20.SemverParses", spec := "semverParses", inPlace := ["internal/bytealg.IndexByteString", "internal/bytealg.IndexString", "internal/bytealg.abigen_runtime_cmpstring"], unfollowed := true, recurses := true, named := ["internal/bytealg.MaxLen", "unicode/utf8.first", "unicode/utf8.acceptRanges"], apart := false, laid := [("unicode/utf8.acceptRanges", laid_unicode_utf8_acceptRanges), ("unicode/utf8.first", laid_unicode_utf8_first)] }
def SemverParsesSaid : Prop := semverParsesRow.holds Tryd.pinned (OpenSpec.ofChange semverParsesSpec)

/-- ITS FALSE NEIGHBOUR: 'it returns false'. Refute it at one input. -/
def semverParsesWrong : ChangeSpec := { name := "semverParses", fn := fun _ => fun
  | [d] => { results := [.lit (.bool false)], args := [d] }
  | _ => none }
def SemverParsesWrongFalsely : Prop := semverParsesRow.holds Tryd.pinned (OpenSpec.ofChange semverParsesWrong)

/-- 'cartularylaw20.SemverPlain': WHATEVER THE INPUT: true; the input reads as it did. -/
def semverPlainSpec : ChangeSpec := { name := "semverPlain", fn := fun _ => fun
  | [d] => { results := [.lit (.bool true)], args := [d] }
  | _ => none }
def semverPlainRow : OpenClaim := { program := "ytjjhicejabggdaadoor", sum := "f7b892d7624b18755dbcbc8fc3a53e48a61c37ddf666d571841a1f31da35bbd7", func := "cartulary/cartularylaw20.SemverPlain", spec := "semverPlain", inPlace := ["internal/bytealg.IndexByteString", "internal/bytealg.IndexString", "internal/bytealg.abigen_runtime_cmpstring"], unfollowed := true, recurses := true, named := ["internal/bytealg.MaxLen", "unicode/utf8.first", "unicode/utf8.acceptRanges"], apart := false, laid := [("unicode/utf8.acceptRanges", laid_unicode_utf8_acceptRanges), ("unicode/utf8.first", laid_unicode_utf8_first)] }
def SemverPlainSaid : Prop := semverPlainRow.holds Tryd.pinned (OpenSpec.ofChange semverPlainSpec)

/-- ITS FALSE NEIGHBOUR: 'it returns false'. Refute it at one input. -/
def semverPlainWrong : ChangeSpec := { name := "semverPlain", fn := fun _ => fun
  | [d] => { results := [.lit (.bool false)], args := [d] }
  | _ => none }
def SemverPlainWrongFalsely : Prop := semverPlainRow.holds Tryd.pinned (OpenSpec.ofChange semverPlainWrong)

/-- 'cartularylaw20.SemverMajor': WHATEVER THE INPUT: true; the input reads as it did. -/
def semverMajorSpec : ChangeSpec := { name := "semverMajor", fn := fun _ => fun
  | [d1, d2] => { results := [.lit (.bool true)], args := [d1, d2] }
  | _ => none }
def semverMajorRow : OpenClaim := { program := "ytjjhicejabggdaadoor", sum := "f7b892d7624b18755dbcbc8fc3a53e48a61c37ddf666d571841a1f31da35bbd7", func := "cartulary/cartularylaw20.SemverMajor", spec := "semverMajor", inPlace := ["internal/bytealg.IndexByteString", "internal/bytealg.IndexString", "internal/bytealg.abigen_runtime_cmpstring"], unfollowed := true, recurses := true, named := ["internal/bytealg.MaxLen", "unicode/utf8.first", "unicode/utf8.acceptRanges"], apart := false, laid := [("unicode/utf8.acceptRanges", laid_unicode_utf8_acceptRanges), ("unicode/utf8.first", laid_unicode_utf8_first)] }
def SemverMajorSaid : Prop := semverMajorRow.holds Tryd.pinned (OpenSpec.ofChange semverMajorSpec)

/-- ITS FALSE NEIGHBOUR: 'it returns false'. Refute it at one input. -/
def semverMajorWrong : ChangeSpec := { name := "semverMajor", fn := fun _ => fun
  | [d1, d2] => { results := [.lit (.bool false)], args := [d1, d2] }
  | _ => none }
def SemverMajorWrongFalsely : Prop := semverMajorRow.holds Tryd.pinned (OpenSpec.ofChange semverMajorWrong)

/-- 'cartularylaw20.SemverSorts': WHATEVER THE INPUT: true; the input reads as it did. -/
def semverSortsSpec : ChangeSpec := { name := "semverSorts", fn := fun _ => fun
  | [d] => { results := [.lit (.bool true)], args := [d] }
  | _ => none }
def semverSortsRow : OpenClaim := { program := "ytjjhicejabggdaadoor", sum := "f7b892d7624b18755dbcbc8fc3a53e48a61c37ddf666d571841a1f31da35bbd7", func := "cartulary/cartularylaw20.SemverSorts", spec := "semverSorts", inPlace := ["internal/bytealg.IndexByteString", "internal/bytealg.IndexString", "internal/bytealg.abigen_runtime_cmpstring"], unfollowed := true, recurses := true, named := ["internal/bytealg.MaxLen", "unicode/utf8.first", "unicode/utf8.acceptRanges"], apart := false, laid := [("unicode/utf8.acceptRanges", laid_unicode_utf8_acceptRanges), ("unicode/utf8.first", laid_unicode_utf8_first)] }
def SemverSortsSaid : Prop := semverSortsRow.holds Tryd.pinned (OpenSpec.ofChange semverSortsSpec)

/-- ITS FALSE NEIGHBOUR: 'it returns false'. Refute it at one input. -/
def semverSortsWrong : ChangeSpec := { name := "semverSorts", fn := fun _ => fun
  | [d] => { results := [.lit (.bool false)], args := [d] }
  | _ => none }
def SemverSortsWrongFalsely : Prop := semverSortsRow.holds Tryd.pinned (OpenSpec.ofChange semverSortsWrong)

/-- 'cartularylaw20.SemverSame': WHATEVER THE INPUT: true; the input reads as it did. -/
def semverSameSpec : ChangeSpec := { name := "semverSame", fn := fun _ => fun
  | [d] => { results := [.lit (.bool true)], args := [d] }
  | _ => none }
def semverSameRow : OpenClaim := { program := "ytjjhicejabggdaadoor", sum := "f7b892d7624b18755dbcbc8fc3a53e48a61c37ddf666d571841a1f31da35bbd7", func := "cartulary/cartularylaw20.SemverSame", spec := "semverSame", inPlace := ["internal/bytealg.IndexByteString", "internal/bytealg.IndexString", "internal/bytealg.abigen_runtime_cmpstring"], unfollowed := true, recurses := true, named := ["internal/bytealg.MaxLen", "unicode/utf8.first", "unicode/utf8.acceptRanges"], apart := false, laid := [("unicode/utf8.acceptRanges", laid_unicode_utf8_acceptRanges), ("unicode/utf8.first", laid_unicode_utf8_first)] }
def SemverSameSaid : Prop := semverSameRow.holds Tryd.pinned (OpenSpec.ofChange semverSameSpec)

/-- ITS FALSE NEIGHBOUR: 'it returns false'. Refute it at one input. -/
def semverSameWrong : ChangeSpec := { name := "semverSame", fn := fun _ => fun
  | [d] => { results := [.lit (.bool false)], args := [d] }
  | _ => none }
def SemverSameWrongFalsely : Prop := semverSameRow.holds Tryd.pinned (OpenSpec.ofChange semverSameWrong)

/- THE SECOND FORM. 'bulk': how many values and letters a reading holds, each counted each time it is reached (what is shared counts as often as it is met; a slice's spare places count too). A statement '..UptoSaid' is the law's where the arguments, and the package variables that the reading takes, are together of bulk at most 1048576: NARROWER than '..Said'. Prove '..Said' where nothing that the law and all that it calls make is longer than what came in: it says more and counts as full. Else prove '..UptoSaid'. A law counts once. -/
mutual
def uptoBulk {H : Type} : DataW H → Nat
  | .lit (.string bytes) => bytes.length + 1
  | .lit _ => 1
  | .nil => 1
  | .ptr d => uptoBulk d + 1
  | .slice elems spare => uptoBulkAll elems + uptoBulkAll spare + 1
  | .agg parts => uptoBulkAll parts + 1
  | .iface _ d => uptoBulk d + 1
  | .map entries => uptoBulkEntries entries + 1
  | .held _ => 1
def uptoBulkAll {H : Type} : List (DataW H) → Nat
  | [] => 0
  | d :: r => uptoBulk d + uptoBulkAll r
def uptoBulkEntries {H : Type} : List (Lit × DataW H) → Nat
  | [] => 0
  | x :: r => uptoBulkEntry x + uptoBulkEntries r
def uptoBulkEntry {H : Type} : Lit × DataW H → Nat
  | (.string bytes, d) => bytes.length + uptoBulk d + 1
  | (_, d) => uptoBulk d + 1
 end
def uptoSmall : (H : Type) → List (DataW H) → Bool := fun _ ds => decide (uptoBulkAll ds ≤ 1048576)
def OpenSpec.upto (s : _root_.Go.ChangeSpec) : _root_.Go.OpenSpec := { _root_.Go.OpenSpec.ofChange s with cond := some uptoSmall }

/-- 'cartularylaw20.SemverTotal', WHERE WHAT IT READS IS OF BULK AT MOST 1048576: true; the input reads as it did. -/
def semverTotalUptoRow : OpenClaim := { program := "ytjjhicejabggdaadoor", sum := "f7b892d7624b18755dbcbc8fc3a53e48a61c37ddf666d571841a1f31da35bbd7", func := "cartulary/cartularylaw20.SemverTotal", spec := "semverTotal", inPlace := ["internal/bytealg.IndexByteString", "internal/bytealg.IndexString", "internal/bytealg.abigen_runtime_cmpstring"], unfollowed := true, recurses := true, named := ["internal/bytealg.MaxLen", "unicode/utf8.first", "unicode/utf8.acceptRanges"], apart := false, laid := [("unicode/utf8.acceptRanges", laid_unicode_utf8_acceptRanges), ("unicode/utf8.first", laid_unicode_utf8_first)], narrowed := true }
def SemverTotalUptoSaid : Prop := semverTotalUptoRow.holds Tryd.pinned (OpenSpec.upto semverTotalSpec)

/-- 'cartularylaw20.SemverNext', WHERE WHAT IT READS IS OF BULK AT MOST 1048576: true; the input reads as it did. -/
def semverNextUptoRow : OpenClaim := { program := "ytjjhicejabggdaadoor", sum := "f7b892d7624b18755dbcbc8fc3a53e48a61c37ddf666d571841a1f31da35bbd7", func := "cartulary/cartularylaw20.SemverNext", spec := "semverNext", inPlace := ["internal/bytealg.IndexByteString", "internal/bytealg.IndexString", "internal/bytealg.abigen_runtime_cmpstring"], unfollowed := true, recurses := true, named := ["internal/bytealg.MaxLen", "unicode/utf8.first", "unicode/utf8.acceptRanges"], apart := false, laid := [("unicode/utf8.acceptRanges", laid_unicode_utf8_acceptRanges), ("unicode/utf8.first", laid_unicode_utf8_first)], narrowed := true }
def SemverNextUptoSaid : Prop := semverNextUptoRow.holds Tryd.pinned (OpenSpec.upto semverNextSpec)

/-- 'cartularylaw20.SemverOrders', WHERE WHAT IT READS IS OF BULK AT MOST 1048576: true; the input reads as it did. -/
def semverOrdersUptoRow : OpenClaim := { program := "ytjjhicejabggdaadoor", sum := "f7b892d7624b18755dbcbc8fc3a53e48a61c37ddf666d571841a1f31da35bbd7", func := "cartulary/cartularylaw20.SemverOrders", spec := "semverOrders", inPlace := ["internal/bytealg.IndexByteString", "internal/bytealg.IndexString", "internal/bytealg.abigen_runtime_cmpstring"], unfollowed := true, recurses := true, named := ["internal/bytealg.MaxLen", "unicode/utf8.first", "unicode/utf8.acceptRanges"], apart := false, laid := [("unicode/utf8.acceptRanges", laid_unicode_utf8_acceptRanges), ("unicode/utf8.first", laid_unicode_utf8_first)], narrowed := true }
def SemverOrdersUptoSaid : Prop := semverOrdersUptoRow.holds Tryd.pinned (OpenSpec.upto semverOrdersSpec)

/-- 'cartularylaw20.SemverParses', WHERE WHAT IT READS IS OF BULK AT MOST 1048576: true; the input reads as it did. -/
def semverParsesUptoRow : OpenClaim := { program := "ytjjhicejabggdaadoor", sum := "f7b892d7624b18755dbcbc8fc3a53e48a61c37ddf666d571841a1f31da35bbd7", func := "cartulary/cartularylaw20.SemverParses", spec := "semverParses", inPlace := ["internal/bytealg.IndexByteString", "internal/bytealg.IndexString", "internal/bytealg.abigen_runtime_cmpstring"], unfollowed := true, recurses := true, named := ["internal/bytealg.MaxLen", "unicode/utf8.first", "unicode/utf8.acceptRanges"], apart := false, laid := [("unicode/utf8.acceptRanges", laid_unicode_utf8_acceptRanges), ("unicode/utf8.first", laid_unicode_utf8_first)], narrowed := true }
def SemverParsesUptoSaid : Prop := semverParsesUptoRow.holds Tryd.pinned (OpenSpec.upto semverParsesSpec)

/-- 'cartularylaw20.SemverPlain', WHERE WHAT IT READS IS OF BULK AT MOST 1048576: true; the input reads as it did. -/
def semverPlainUptoRow : OpenClaim := { program := "ytjjhicejabggdaadoor", sum := "f7b892d7624b18755dbcbc8fc3a53e48a61c37ddf666d571841a1f31da35bbd7", func := "cartulary/cartularylaw20.SemverPlain", spec := "semverPlain", inPlace := ["internal/bytealg.IndexByteString", "internal/bytealg.IndexString", "internal/bytealg.abigen_runtime_cmpstring"], unfollowed := true, recurses := true, named := ["internal/bytealg.MaxLen", "unicode/utf8.first", "unicode/utf8.acceptRanges"], apart := false, laid := [("unicode/utf8.acceptRanges", laid_unicode_utf8_acceptRanges), ("unicode/utf8.first", laid_unicode_utf8_first)], narrowed := true }
def SemverPlainUptoSaid : Prop := semverPlainUptoRow.holds Tryd.pinned (OpenSpec.upto semverPlainSpec)

/-- 'cartularylaw20.SemverMajor', WHERE WHAT IT READS IS OF BULK AT MOST 1048576: true; the input reads as it did. -/
def semverMajorUptoRow : OpenClaim := { program := "ytjjhicejabggdaadoor", sum := "f7b892d7624b18755dbcbc8fc3a53e48a61c37ddf666d571841a1f31da35bbd7", func := "cartulary/cartularylaw20.SemverMajor", spec := "semverMajor", inPlace := ["internal/bytealg.IndexByteString", "internal/bytealg.IndexString", "internal/bytealg.abigen_runtime_cmpstring"], unfollowed := true, recurses := true, named := ["internal/bytealg.MaxLen", "unicode/utf8.first", "unicode/utf8.acceptRanges"], apart := false, laid := [("unicode/utf8.acceptRanges", laid_unicode_utf8_acceptRanges), ("unicode/utf8.first", laid_unicode_utf8_first)], narrowed := true }
def SemverMajorUptoSaid : Prop := semverMajorUptoRow.holds Tryd.pinned (OpenSpec.upto semverMajorSpec)

/-- 'cartularylaw20.SemverSorts', WHERE WHAT IT READS IS OF BULK AT MOST 1048576: true; the input reads as it did. -/
def semverSortsUptoRow : OpenClaim := { program := "ytjjhicejabggdaadoor", sum := "f7b892d7624b18755dbcbc8fc3a53e48a61c37ddf666d571841a1f31da35bbd7", func := "cartulary/cartularylaw20.SemverSorts", spec := "semverSorts", inPlace := ["internal/bytealg.IndexByteString", "internal/bytealg.IndexString", "internal/bytealg.abigen_runtime_cmpstring"], unfollowed := true, recurses := true, named := ["internal/bytealg.MaxLen", "unicode/utf8.first", "unicode/utf8.acceptRanges"], apart := false, laid := [("unicode/utf8.acceptRanges", laid_unicode_utf8_acceptRanges), ("unicode/utf8.first", laid_unicode_utf8_first)], narrowed := true }
def SemverSortsUptoSaid : Prop := semverSortsUptoRow.holds Tryd.pinned (OpenSpec.upto semverSortsSpec)

/-- 'cartularylaw20.SemverSame', WHERE WHAT IT READS IS OF BULK AT MOST 1048576: true; the input reads as it did. -/
def semverSameUptoRow : OpenClaim := { program := "ytjjhicejabggdaadoor", sum := "f7b892d7624b18755dbcbc8fc3a53e48a61c37ddf666d571841a1f31da35bbd7", func := "cartulary/cartularylaw20.SemverSame", spec := "semverSame", inPlace := ["internal/bytealg.IndexByteString", "internal/bytealg.IndexString", "internal/bytealg.abigen_runtime_cmpstring"], unfollowed := true, recurses := true, named := ["internal/bytealg.MaxLen", "unicode/utf8.first", "unicode/utf8.acceptRanges"], apart := false, laid := [("unicode/utf8.acceptRanges", laid_unicode_utf8_acceptRanges), ("unicode/utf8.first", laid_unicode_utf8_first)], narrowed := true }
def SemverSameUptoSaid : Prop := semverSameUptoRow.holds Tryd.pinned (OpenSpec.upto semverSameSpec)

end Rows
end Go.Proofs.YtjjhicejabggdaaDoor
