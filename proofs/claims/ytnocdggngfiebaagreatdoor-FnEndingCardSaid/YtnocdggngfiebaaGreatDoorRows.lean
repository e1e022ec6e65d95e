/-
  NARROWER THAN 'FOR EVERY INPUT', by the rows' own cells (each row's printed sentence says how): FnReduceNeed: laid · FnFullNeeds: laid · FnGapsOf: laid · FnFindGiven: laid · FnEnding: laid · FnExactCloseWorld: laid · FnOverlaps: laid · FnOrdered: laid · FnTypesHaving: laid.
  DERIVED. THE GIVEN ROWS OF THIS SEAT. 9 by the template 'for every input the law returns true; each argument reads behind the call as it read before'; 0 by the template 'total and deterministic' (their statements: YtnocdggngfiebaaGreatDoorTotals.lean).
  GIVEN WITH THE SEED: the statements are not yours to turn. If you find one false, say at which input.
  Laid BY PROGRAM, IN A SANDBOX (cutbox-rows.mjs): the forced cells as the released guide's own fill.sh prints them over the translation ef6189ad35f93294… (all of the seat's roots in one cut). By AI agents, Wed Nov 11 2026. No macro, syntax, notation, axiom, sorry.
-/
import Derived.Test.YtnocdggngfiebaaGreatDoorChecked
import GoSem.Claim
import GoSem.ClaimJoined
import GoSem.ClaimMapViews
import Derived.JoinedTies
import Derived.KernelRfl
namespace Go.Proofs.YtnocdggngfiebaaGreatDoor
/- THE CELL 'sum', in the pinned program and in every row, IS THE sha256 OF THE DUMP (.gsa) THAT YtnocdggngfiebaaGreatDoorProg.lean LOADS. Nothing in Lean hashes anything: it is a label: what it is worth is what the hold of that sum in a sandbox is worth. -/
noncomputable def Tryz.pinned : Pinned := { name := "ytnocdggngfiebaagreatdoor", sum := "ef6189ad35f9329437a6c9c846d0ff30a3dfb7ce014ccf432c32207ed014d2e8", checked := Tryz.checked }
namespace Rows
def none {H : Type} : Left H := { results := [], args := [] }

/- WHAT THE LISTED PACKAGE-LEVEL VARIABLES READ AS WHEN THE CALL BEGINS. Each datum BY PROGRAM (the guide's laid-datum.mjs) off the statement by which the dump's own 'gosem.cut.vars' lays the variable. In a bare row this is a premise. The card (YtnocdggngfiebaaGreatDoorCards.lean) ties it to the program's text. -/
def laid_math_bits_deBruijn32tab {H : Type} : DataW H := .agg [.lit (.int .u8 0), .lit (.int .u8 1), .lit (.int .u8 28), .lit (.int .u8 2), .lit (.int .u8 29), .lit (.int .u8 14), .lit (.int .u8 24), .lit (.int .u8 3), .lit (.int .u8 30), .lit (.int .u8 22), .lit (.int .u8 20), .lit (.int .u8 15), .lit (.int .u8 25), .lit (.int .u8 17), .lit (.int .u8 4), .lit (.int .u8 8), .lit (.int .u8 31), .lit (.int .u8 27), .lit (.int .u8 13), .lit (.int .u8 23), .lit (.int .u8 21), .lit (.int .u8 19), .lit (.int .u8 16), .lit (.int .u8 7), .lit (.int .u8 26), .lit (.int .u8 12), .lit (.int .u8 18), .lit (.int .u8 6), .lit (.int .u8 11), .lit (.int .u8 5), .lit (.int .u8 10), .lit (.int .u8 9)]
def laid_math_bits_deBruijn64tab {H : Type} : DataW H := .agg [.lit (.int .u8 0), .lit (.int .u8 1), .lit (.int .u8 56), .lit (.int .u8 2), .lit (.int .u8 57), .lit (.int .u8 49), .lit (.int .u8 28), .lit (.int .u8 3), .lit (.int .u8 61), .lit (.int .u8 58), .lit (.int .u8 42), .lit (.int .u8 50), .lit (.int .u8 38), .lit (.int .u8 29), .lit (.int .u8 17), .lit (.int .u8 4), .lit (.int .u8 62), .lit (.int .u8 47), .lit (.int .u8 59), .lit (.int .u8 36), .lit (.int .u8 45), .lit (.int .u8 43), .lit (.int .u8 51), .lit (.int .u8 22), .lit (.int .u8 53), .lit (.int .u8 39), .lit (.int .u8 33), .lit (.int .u8 30), .lit (.int .u8 24), .lit (.int .u8 18), .lit (.int .u8 12), .lit (.int .u8 5), .lit (.int .u8 63), .lit (.int .u8 55), .lit (.int .u8 48), .lit (.int .u8 27), .lit (.int .u8 60), .lit (.int .u8 41), .lit (.int .u8 37), .lit (.int .u8 16), .lit (.int .u8 46), .lit (.int .u8 35), .lit (.int .u8 44), .lit (.int .u8 21), .lit (.int .u8 52), .lit (.int .u8 32), .lit (.int .u8 23), .lit (.int .u8 11), .lit (.int .u8 54), .lit (.int .u8 26), .lit (.int .u8 40), .lit (.int .u8 15), .lit (.int .u8 34), .lit (.int .u8 20), .lit (.int .u8 31), .lit (.int .u8 10), .lit (.int .u8 25), .lit (.int .u8 14), .lit (.int .u8 19), .lit (.int .u8 9), .lit (.int .u8 13), .lit (.int .u8 8), .lit (.int .u8 7), .lit (.int .u8 6)]
def laid_internal_strconv_uint64pow10 {H : Type} : DataW H := .agg [.lit (.int .u64 1), .lit (.int .u64 10), .lit (.int .u64 100), .lit (.int .u64 1000), .lit (.int .u64 10000), .lit (.int .u64 100000), .lit (.int .u64 1000000), .lit (.int .u64 10000000), .lit (.int .u64 100000000), .lit (.int .u64 1000000000), .lit (.int .u64 10000000000), .lit (.int .u64 100000000000), .lit (.int .u64 1000000000000), .lit (.int .u64 10000000000000), .lit (.int .u64 100000000000000), .lit (.int .u64 1000000000000000), .lit (.int .u64 10000000000000000), .lit (.int .u64 100000000000000000), .lit (.int .u64 1000000000000000000), .lit (.int .u64 10000000000000000000)]

/-- 'laws.FnReduceNeed': WHATEVER THE INPUT: true; the input reads as it did. -/
def fnReduceNeedSpec : ChangeSpec := { name := "fnReduceNeed", fn := fun _ => fun
  | [d] => { results := [.lit (.bool true)], args := [d] }
  | _ => none }
def fnReduceNeedRow : OpenClaim := { program := "ytnocdggngfiebaagreatdoor", sum := "ef6189ad35f9329437a6c9c846d0ff30a3dfb7ce014ccf432c32207ed014d2e8", func := "loop.example/instancesearch/laws.FnReduceNeed", spec := "fnReduceNeed", inPlace := ["internal/bytealg.IndexByteString", "internal/bytealg.IndexString", "internal/abi.NoEscape", "internal/bytealg.MakeNoZero", "internal/bytealg.CountString"], unfollowed := true, recurses := true, named := ["internal/bytealg.MaxLen", "internal/strconv.uint64pow10", "math/bits.deBruijn32tab", "math/bits.deBruijn64tab"], apart := false, laid := [("math/bits.deBruijn32tab", laid_math_bits_deBruijn32tab), ("math/bits.deBruijn64tab", laid_math_bits_deBruijn64tab), ("internal/strconv.uint64pow10", laid_internal_strconv_uint64pow10)] }
def FnReduceNeedSaid : Prop := fnReduceNeedRow.holds Tryz.pinned (OpenSpec.ofChange fnReduceNeedSpec)

/-- ITS FALSE NEIGHBOUR: 'it returns false'. Refute it at one input. -/
def fnReduceNeedWrong : ChangeSpec := { name := "fnReduceNeed", fn := fun _ => fun
  | [d] => { results := [.lit (.bool false)], args := [d] }
  | _ => none }
def FnReduceNeedWrongFalsely : Prop := fnReduceNeedRow.holds Tryz.pinned (OpenSpec.ofChange fnReduceNeedWrong)

/-- 'laws.FnFullNeeds': WHATEVER THE INPUT: true; the input reads as it did. -/
def fnFullNeedsSpec : ChangeSpec := { name := "fnFullNeeds", fn := fun _ => fun
  | [d] => { results := [.lit (.bool true)], args := [d] }
  | _ => none }
def fnFullNeedsRow : OpenClaim := { program := "ytnocdggngfiebaagreatdoor", sum := "ef6189ad35f9329437a6c9c846d0ff30a3dfb7ce014ccf432c32207ed014d2e8", func := "loop.example/instancesearch/laws.FnFullNeeds", spec := "fnFullNeeds", inPlace := ["internal/bytealg.IndexByteString", "internal/bytealg.IndexString", "internal/abi.NoEscape", "internal/bytealg.MakeNoZero", "internal/bytealg.CountString"], unfollowed := true, recurses := true, named := ["internal/bytealg.MaxLen", "internal/strconv.uint64pow10", "math/bits.deBruijn32tab", "math/bits.deBruijn64tab"], apart := false, laid := [("math/bits.deBruijn32tab", laid_math_bits_deBruijn32tab), ("math/bits.deBruijn64tab", laid_math_bits_deBruijn64tab), ("internal/strconv.uint64pow10", laid_internal_strconv_uint64pow10)] }
def FnFullNeedsSaid : Prop := fnFullNeedsRow.holds Tryz.pinned (OpenSpec.ofChange fnFullNeedsSpec)

/-- ITS FALSE NEIGHBOUR: 'it returns false'. Refute it at one input. -/
def fnFullNeedsWrong : ChangeSpec := { name := "fnFullNeeds", fn := fun _ => fun
  | [d] => { results := [.lit (.bool false)], args := [d] }
  | _ => none }
def FnFullNeedsWrongFalsely : Prop := fnFullNeedsRow.holds Tryz.pinned (OpenSpec.ofChange fnFullNeedsWrong)

/-- 'laws.FnGapsOf': WHATEVER THE INPUT: true; the input reads as it did. -/
def fnGapsOfSpec : ChangeSpec := { name := "fnGapsOf", fn := fun _ => fun
  | [d1, d2] => { results := [.lit (.bool true)], args := [d1, d2] }
  | _ => none }
def fnGapsOfRow : OpenClaim := { program := "ytnocdggngfiebaagreatdoor", sum := "ef6189ad35f9329437a6c9c846d0ff30a3dfb7ce014ccf432c32207ed014d2e8", func := "loop.example/instancesearch/laws.FnGapsOf", spec := "fnGapsOf", inPlace := ["internal/bytealg.IndexByteString", "internal/bytealg.IndexString", "internal/abi.NoEscape", "internal/bytealg.MakeNoZero"], unfollowed := true, recurses := true, named := ["internal/bytealg.MaxLen", "internal/strconv.uint64pow10", "math/bits.deBruijn32tab", "math/bits.deBruijn64tab"], apart := false, laid := [("math/bits.deBruijn32tab", laid_math_bits_deBruijn32tab), ("math/bits.deBruijn64tab", laid_math_bits_deBruijn64tab), ("internal/strconv.uint64pow10", laid_internal_strconv_uint64pow10)] }
def FnGapsOfSaid : Prop := fnGapsOfRow.holds Tryz.pinned (OpenSpec.ofChange fnGapsOfSpec)

/-- ITS FALSE NEIGHBOUR: 'it returns false'. Refute it at one input. -/
def fnGapsOfWrong : ChangeSpec := { name := "fnGapsOf", fn := fun _ => fun
  | [d1, d2] => { results := [.lit (.bool false)], args := [d1, d2] }
  | _ => none }
def FnGapsOfWrongFalsely : Prop := fnGapsOfRow.holds Tryz.pinned (OpenSpec.ofChange fnGapsOfWrong)

/-- 'laws.FnFindGiven': WHATEVER THE INPUT: true; the input reads as it did. -/
def fnFindGivenSpec : ChangeSpec := { name := "fnFindGiven", fn := fun _ => fun
  | [d1, d2] => { results := [.lit (.bool true)], args := [d1, d2] }
  | _ => none }
def fnFindGivenRow : OpenClaim := { program := "ytnocdggngfiebaagreatdoor", sum := "ef6189ad35f9329437a6c9c846d0ff30a3dfb7ce014ccf432c32207ed014d2e8", func := "loop.example/instancesearch/laws.FnFindGiven", spec := "fnFindGiven", inPlace := ["internal/bytealg.IndexByteString", "internal/bytealg.IndexString", "internal/abi.NoEscape", "internal/bytealg.MakeNoZero"], unfollowed := true, recurses := true, named := ["internal/bytealg.MaxLen", "internal/strconv.uint64pow10", "math/bits.deBruijn32tab", "math/bits.deBruijn64tab"], apart := false, laid := [("math/bits.deBruijn32tab", laid_math_bits_deBruijn32tab), ("math/bits.deBruijn64tab", laid_math_bits_deBruijn64tab), ("internal/strconv.uint64pow10", laid_internal_strconv_uint64pow10)] }
def FnFindGivenSaid : Prop := fnFindGivenRow.holds Tryz.pinned (OpenSpec.ofChange fnFindGivenSpec)

/-- ITS FALSE NEIGHBOUR: 'it returns false'. Refute it at one input. -/
def fnFindGivenWrong : ChangeSpec := { name := "fnFindGiven", fn := fun _ => fun
  | [d1, d2] => { results := [.lit (.bool false)], args := [d1, d2] }
  | _ => none }
def FnFindGivenWrongFalsely : Prop := fnFindGivenRow.holds Tryz.pinned (OpenSpec.ofChange fnFindGivenWrong)

/-- 'laws.FnEnding': WHATEVER THE INPUT: true; the input reads as it did. -/
def fnEndingSpec : ChangeSpec := { name := "fnEnding", fn := fun _ => fun
  | [d1, d2] => { results := [.lit (.bool true)], args := [d1, d2] }
  | _ => none }
def fnEndingRow : OpenClaim := { program := "ytnocdggngfiebaagreatdoor", sum := "ef6189ad35f9329437a6c9c846d0ff30a3dfb7ce014ccf432c32207ed014d2e8", func := "loop.example/instancesearch/laws.FnEnding", spec := "fnEnding", inPlace := ["internal/bytealg.IndexByteString", "internal/bytealg.IndexString", "internal/abi.NoEscape", "internal/bytealg.MakeNoZero", "internal/bytealg.CountString"], unfollowed := true, recurses := true, named := ["internal/bytealg.MaxLen", "internal/strconv.uint64pow10", "math/bits.deBruijn32tab", "math/bits.deBruijn64tab"], apart := false, laid := [("math/bits.deBruijn32tab", laid_math_bits_deBruijn32tab), ("math/bits.deBruijn64tab", laid_math_bits_deBruijn64tab), ("internal/strconv.uint64pow10", laid_internal_strconv_uint64pow10)] }
def FnEndingSaid : Prop := fnEndingRow.holds Tryz.pinned (OpenSpec.ofChange fnEndingSpec)

/-- ITS FALSE NEIGHBOUR: 'it returns false'. Refute it at one input. -/
def fnEndingWrong : ChangeSpec := { name := "fnEnding", fn := fun _ => fun
  | [d1, d2] => { results := [.lit (.bool false)], args := [d1, d2] }
  | _ => none }
def FnEndingWrongFalsely : Prop := fnEndingRow.holds Tryz.pinned (OpenSpec.ofChange fnEndingWrong)

/-- 'laws.FnExactCloseWorld': WHATEVER THE INPUT: true; the input reads as it did. -/
def fnExactCloseWorldSpec : ChangeSpec := { name := "fnExactCloseWorld", fn := fun _ => fun
  | [d] => { results := [.lit (.bool true)], args := [d] }
  | _ => none }
def fnExactCloseWorldRow : OpenClaim := { program := "ytnocdggngfiebaagreatdoor", sum := "ef6189ad35f9329437a6c9c846d0ff30a3dfb7ce014ccf432c32207ed014d2e8", func := "loop.example/instancesearch/laws.FnExactCloseWorld", spec := "fnExactCloseWorld", inPlace := ["internal/bytealg.IndexByteString", "internal/bytealg.IndexString", "internal/abi.NoEscape", "internal/bytealg.MakeNoZero"], unfollowed := true, recurses := true, named := ["internal/bytealg.MaxLen", "internal/strconv.uint64pow10", "math/bits.deBruijn32tab", "math/bits.deBruijn64tab"], apart := false, laid := [("math/bits.deBruijn32tab", laid_math_bits_deBruijn32tab), ("math/bits.deBruijn64tab", laid_math_bits_deBruijn64tab), ("internal/strconv.uint64pow10", laid_internal_strconv_uint64pow10)] }
def FnExactCloseWorldSaid : Prop := fnExactCloseWorldRow.holds Tryz.pinned (OpenSpec.ofChange fnExactCloseWorldSpec)

/-- ITS FALSE NEIGHBOUR: 'it returns false'. Refute it at one input. -/
def fnExactCloseWorldWrong : ChangeSpec := { name := "fnExactCloseWorld", fn := fun _ => fun
  | [d] => { results := [.lit (.bool false)], args := [d] }
  | _ => none }
def FnExactCloseWorldWrongFalsely : Prop := fnExactCloseWorldRow.holds Tryz.pinned (OpenSpec.ofChange fnExactCloseWorldWrong)

/-- 'laws.FnOverlaps': WHATEVER THE INPUT: true; the input reads as it did. -/
def fnOverlapsSpec : ChangeSpec := { name := "fnOverlaps", fn := fun _ => fun
  | [d1, d2] => { results := [.lit (.bool true)], args := [d1, d2] }
  | _ => none }
def fnOverlapsRow : OpenClaim := { program := "ytnocdggngfiebaagreatdoor", sum := "ef6189ad35f9329437a6c9c846d0ff30a3dfb7ce014ccf432c32207ed014d2e8", func := "loop.example/instancesearch/laws.FnOverlaps", spec := "fnOverlaps", inPlace := ["internal/bytealg.IndexByteString", "internal/bytealg.IndexString", "internal/abi.NoEscape", "internal/bytealg.MakeNoZero"], unfollowed := true, recurses := true, named := ["internal/bytealg.MaxLen", "internal/strconv.uint64pow10", "math/bits.deBruijn32tab", "math/bits.deBruijn64tab"], apart := false, laid := [("math/bits.deBruijn32tab", laid_math_bits_deBruijn32tab), ("math/bits.deBruijn64tab", laid_math_bits_deBruijn64tab), ("internal/strconv.uint64pow10", laid_internal_strconv_uint64pow10)] }
def FnOverlapsSaid : Prop := fnOverlapsRow.holds Tryz.pinned (OpenSpec.ofChange fnOverlapsSpec)

/-- ITS FALSE NEIGHBOUR: 'it returns false'. Refute it at one input. -/
def fnOverlapsWrong : ChangeSpec := { name := "fnOverlaps", fn := fun _ => fun
  | [d1, d2] => { results := [.lit (.bool false)], args := [d1, d2] }
  | _ => none }
def FnOverlapsWrongFalsely : Prop := fnOverlapsRow.holds Tryz.pinned (OpenSpec.ofChange fnOverlapsWrong)

/-- 'laws.FnOrdered': WHATEVER THE INPUT: true; the input reads as it did. -/
def fnOrderedSpec : ChangeSpec := { name := "fnOrdered", fn := fun _ => fun
  | [d1, d2] => { results := [.lit (.bool true)], args := [d1, d2] }
  | _ => none }
def fnOrderedRow : OpenClaim := { program := "ytnocdggngfiebaagreatdoor", sum := "ef6189ad35f9329437a6c9c846d0ff30a3dfb7ce014ccf432c32207ed014d2e8", func := "loop.example/instancesearch/laws.FnOrdered", spec := "fnOrdered", inPlace := ["internal/bytealg.IndexByteString", "internal/bytealg.IndexString", "internal/abi.NoEscape", "internal/bytealg.MakeNoZero"], unfollowed := true, recurses := true, named := ["internal/bytealg.MaxLen", "internal/strconv.uint64pow10", "math/bits.deBruijn32tab", "math/bits.deBruijn64tab"], apart := false, laid := [("math/bits.deBruijn32tab", laid_math_bits_deBruijn32tab), ("math/bits.deBruijn64tab", laid_math_bits_deBruijn64tab), ("internal/strconv.uint64pow10", laid_internal_strconv_uint64pow10)] }
def FnOrderedSaid : Prop := fnOrderedRow.holds Tryz.pinned (OpenSpec.ofChange fnOrderedSpec)

/-- ITS FALSE NEIGHBOUR: 'it returns false'. Refute it at one input. -/
def fnOrderedWrong : ChangeSpec := { name := "fnOrdered", fn := fun _ => fun
  | [d1, d2] => { results := [.lit (.bool false)], args := [d1, d2] }
  | _ => none }
def FnOrderedWrongFalsely : Prop := fnOrderedRow.holds Tryz.pinned (OpenSpec.ofChange fnOrderedWrong)

/-- 'laws.FnTypesHaving': WHATEVER THE INPUT: true; the input reads as it did. -/
def fnTypesHavingSpec : ChangeSpec := { name := "fnTypesHaving", fn := fun _ => fun
  | [d] => { results := [.lit (.bool true)], args := [d] }
  | _ => none }
def fnTypesHavingRow : OpenClaim := { program := "ytnocdggngfiebaagreatdoor", sum := "ef6189ad35f9329437a6c9c846d0ff30a3dfb7ce014ccf432c32207ed014d2e8", func := "loop.example/instancesearch/laws.FnTypesHaving", spec := "fnTypesHaving", inPlace := ["internal/bytealg.IndexByteString", "internal/bytealg.IndexString", "internal/abi.NoEscape", "internal/bytealg.MakeNoZero", "internal/bytealg.CountString"], unfollowed := true, recurses := true, named := ["internal/bytealg.MaxLen", "internal/strconv.uint64pow10", "math/bits.deBruijn32tab", "math/bits.deBruijn64tab"], apart := false, laid := [("math/bits.deBruijn32tab", laid_math_bits_deBruijn32tab), ("math/bits.deBruijn64tab", laid_math_bits_deBruijn64tab), ("internal/strconv.uint64pow10", laid_internal_strconv_uint64pow10)] }
def FnTypesHavingSaid : Prop := fnTypesHavingRow.holds Tryz.pinned (OpenSpec.ofChange fnTypesHavingSpec)

/-- ITS FALSE NEIGHBOUR: 'it returns false'. Refute it at one input. -/
def fnTypesHavingWrong : ChangeSpec := { name := "fnTypesHaving", fn := fun _ => fun
  | [d] => { results := [.lit (.bool false)], args := [d] }
  | _ => none }
def FnTypesHavingWrongFalsely : Prop := fnTypesHavingRow.holds Tryz.pinned (OpenSpec.ofChange fnTypesHavingWrong)

/- THE SECOND FORM. 'bulk': how many values and letters a reading holds, each counted each time it is reached (what is shared counts as often as it is met; a slice's spare places count too). A statement '..UptoSaid' is the law's where the arguments, and the package variables that the reading takes, are together of bulk at most 1048576: NARROWER than '..Said'. Prove '..Said' where nothing that the law and all that it calls make is longer than what came in: it says more and counts as full. Else prove '..UptoSaid'. A law counts once. -/
mutual
def uptoBulk {H : Type} : DataW H → Nat
  | .lit (.string bytes) => bytes.length + 1
  | .lit _ => 1
  | .nil => 1
  | .ptr d => uptoBulk d + 1
  | .slice elems spare => uptoBulkAll elems + uptoBulkAll spare + 1
  | .agg parts => uptoBulkAll parts + 1
  | .iface _ d => uptoBulk d + 1
  | .map entries => uptoBulkEntries entries + 1
  | .held _ => 1
def uptoBulkAll {H : Type} : List (DataW H) → Nat
  | [] => 0
  | d :: r => uptoBulk d + uptoBulkAll r
def uptoBulkEntries {H : Type} : List (Lit × DataW H) → Nat
  | [] => 0
  | x :: r => uptoBulkEntry x + uptoBulkEntries r
def uptoBulkEntry {H : Type} : Lit × DataW H → Nat
  | (.string bytes, d) => bytes.length + uptoBulk d + 1
  | (_, d) => uptoBulk d + 1
 end
def uptoSmall : (H : Type) → List (DataW H) → Bool := fun _ ds => decide (uptoBulkAll ds ≤ 1048576)
def OpenSpec.upto (s : _root_.Go.ChangeSpec) : _root_.Go.OpenSpec := { _root_.Go.OpenSpec.ofChange s with cond := some uptoSmall }

/-- 'laws.FnReduceNeed', WHERE WHAT IT READS IS OF BULK AT MOST 1048576: true; the input reads as it did. -/
def fnReduceNeedUptoRow : OpenClaim := { program := "ytnocdggngfiebaagreatdoor", sum := "ef6189ad35f9329437a6c9c846d0ff30a3dfb7ce014ccf432c32207ed014d2e8", func := "loop.example/instancesearch/laws.FnReduceNeed", spec := "fnReduceNeed", inPlace := ["internal/bytealg.IndexByteString", "internal/bytealg.IndexString", "internal/abi.NoEscape", "internal/bytealg.MakeNoZero", "internal/bytealg.CountString"], unfollowed := true, recurses := true, named := ["internal/bytealg.MaxLen", "internal/strconv.uint64pow10", "math/bits.deBruijn32tab", "math/bits.deBruijn64tab"], apart := false, laid := [("math/bits.deBruijn32tab", laid_math_bits_deBruijn32tab), ("math/bits.deBruijn64tab", laid_math_bits_deBruijn64tab), ("internal/strconv.uint64pow10", laid_internal_strconv_uint64pow10)], narrowed := true }
def FnReduceNeedUptoSaid : Prop := fnReduceNeedUptoRow.holds Tryz.pinned (OpenSpec.upto fnReduceNeedSpec)

/-- 'laws.FnFullNeeds', WHERE WHAT IT READS IS OF BULK AT MOST 1048576: true; the input reads as it did. -/
def fnFullNeedsUptoRow : OpenClaim := { program := "ytnocdggngfiebaagreatdoor", sum := "ef6189ad35f9329437a6c9c846d0ff30a3dfb7ce014ccf432c32207ed014d2e8", func := "loop.example/instancesearch/laws.FnFullNeeds", spec := "fnFullNeeds", inPlace := ["internal/bytealg.IndexByteString", "internal/bytealg.IndexString", "internal/abi.NoEscape", "internal/bytealg.MakeNoZero", "internal/bytealg.CountString"], unfollowed := true, recurses := true, named := ["internal/bytealg.MaxLen", "internal/strconv.uint64pow10", "math/bits.deBruijn32tab", "math/bits.deBruijn64tab"], apart := false, laid := [("math/bits.deBruijn32tab", laid_math_bits_deBruijn32tab), ("math/bits.deBruijn64tab", laid_math_bits_deBruijn64tab), ("internal/strconv.uint64pow10", laid_internal_strconv_uint64pow10)], narrowed := true }
def FnFullNeedsUptoSaid : Prop := fnFullNeedsUptoRow.holds Tryz.pinned (OpenSpec.upto fnFullNeedsSpec)

/-- 'laws.FnGapsOf', WHERE WHAT IT READS IS OF BULK AT MOST 1048576: true; the input reads as it did. -/
def fnGapsOfUptoRow : OpenClaim := { program := "ytnocdggngfiebaagreatdoor", sum := "ef6189ad35f9329437a6c9c846d0ff30a3dfb7ce014ccf432c32207ed014d2e8", func := "loop.example/instancesearch/laws.FnGapsOf", spec := "fnGapsOf", inPlace := ["internal/bytealg.IndexByteString", "internal/bytealg.IndexString", "internal/abi.NoEscape", "internal/bytealg.MakeNoZero"], unfollowed := true, recurses := true, named := ["internal/bytealg.MaxLen", "internal/strconv.uint64pow10", "math/bits.deBruijn32tab", "math/bits.deBruijn64tab"], apart := false, laid := [("math/bits.deBruijn32tab", laid_math_bits_deBruijn32tab), ("math/bits.deBruijn64tab", laid_math_bits_deBruijn64tab), ("internal/strconv.uint64pow10", laid_internal_strconv_uint64pow10)], narrowed := true }
def FnGapsOfUptoSaid : Prop := fnGapsOfUptoRow.holds Tryz.pinned (OpenSpec.upto fnGapsOfSpec)

/-- 'laws.FnFindGiven', WHERE WHAT IT READS IS OF BULK AT MOST 1048576: true; the input reads as it did. -/
def fnFindGivenUptoRow : OpenClaim := { program := "ytnocdggngfiebaagreatdoor", sum := "ef6189ad35f9329437a6c9c846d0ff30a3dfb7ce014ccf432c32207ed014d2e8", func := "loop.example/instancesearch/laws.FnFindGiven", spec := "fnFindGiven", inPlace := ["internal/bytealg.IndexByteString", "internal/bytealg.IndexString", "internal/abi.NoEscape", "internal/bytealg.MakeNoZero"], unfollowed := true, recurses := true, named := ["internal/bytealg.MaxLen", "internal/strconv.uint64pow10", "math/bits.deBruijn32tab", "math/bits.deBruijn64tab"], apart := false, laid := [("math/bits.deBruijn32tab", laid_math_bits_deBruijn32tab), ("math/bits.deBruijn64tab", laid_math_bits_deBruijn64tab), ("internal/strconv.uint64pow10", laid_internal_strconv_uint64pow10)], narrowed := true }
def FnFindGivenUptoSaid : Prop := fnFindGivenUptoRow.holds Tryz.pinned (OpenSpec.upto fnFindGivenSpec)

/-- 'laws.FnEnding', WHERE WHAT IT READS IS OF BULK AT MOST 1048576: true; the input reads as it did. -/
def fnEndingUptoRow : OpenClaim := { program := "ytnocdggngfiebaagreatdoor", sum := "ef6189ad35f9329437a6c9c846d0ff30a3dfb7ce014ccf432c32207ed014d2e8", func := "loop.example/instancesearch/laws.FnEnding", spec := "fnEnding", inPlace := ["internal/bytealg.IndexByteString", "internal/bytealg.IndexString", "internal/abi.NoEscape", "internal/bytealg.MakeNoZero", "internal/bytealg.CountString"], unfollowed := true, recurses := true, named := ["internal/bytealg.MaxLen", "internal/strconv.uint64pow10", "math/bits.deBruijn32tab", "math/bits.deBruijn64tab"], apart := false, laid := [("math/bits.deBruijn32tab", laid_math_bits_deBruijn32tab), ("math/bits.deBruijn64tab", laid_math_bits_deBruijn64tab), ("internal/strconv.uint64pow10", laid_internal_strconv_uint64pow10)], narrowed := true }
def FnEndingUptoSaid : Prop := fnEndingUptoRow.holds Tryz.pinned (OpenSpec.upto fnEndingSpec)

/-- 'laws.FnExactCloseWorld', WHERE WHAT IT READS IS OF BULK AT MOST 1048576: true; the input reads as it did. -/
def fnExactCloseWorldUptoRow : OpenClaim := { program := "ytnocdggngfiebaagreatdoor", sum := "ef6189ad35f9329437a6c9c846d0ff30a3dfb7ce014ccf432c32207ed014d2e8", func := "loop.example/instancesearch/laws.FnExactCloseWorld", spec := "fnExactCloseWorld", inPlace := ["internal/bytealg.IndexByteString", "internal/bytealg.IndexString", "internal/abi.NoEscape", "internal/bytealg.MakeNoZero"], unfollowed := true, recurses := true, named := ["internal/bytealg.MaxLen", "internal/strconv.uint64pow10", "math/bits.deBruijn32tab", "math/bits.deBruijn64tab"], apart := false, laid := [("math/bits.deBruijn32tab", laid_math_bits_deBruijn32tab), ("math/bits.deBruijn64tab", laid_math_bits_deBruijn64tab), ("internal/strconv.uint64pow10", laid_internal_strconv_uint64pow10)], narrowed := true }
def FnExactCloseWorldUptoSaid : Prop := fnExactCloseWorldUptoRow.holds Tryz.pinned (OpenSpec.upto fnExactCloseWorldSpec)

/-- 'laws.FnOverlaps', WHERE WHAT IT READS IS OF BULK AT MOST 1048576: true; the input reads as it did. -/
def fnOverlapsUptoRow : OpenClaim := { program := "ytnocdggngfiebaagreatdoor", sum := "ef6189ad35f9329437a6c9c846d0ff30a3dfb7ce014ccf432c32207ed014d2e8", func := "loop.example/instancesearch/laws.FnOverlaps", spec := "fnOverlaps", inPlace := ["internal/bytealg.IndexByteString", "internal/bytealg.IndexString", "internal/abi.NoEscape", "internal/bytealg.MakeNoZero"], unfollowed := true, recurses := true, named := ["internal/bytealg.MaxLen", "internal/strconv.uint64pow10", "math/bits.deBruijn32tab", "math/bits.deBruijn64tab"], apart := false, laid := [("math/bits.deBruijn32tab", laid_math_bits_deBruijn32tab), ("math/bits.deBruijn64tab", laid_math_bits_deBruijn64tab), ("internal/strconv.uint64pow10", laid_internal_strconv_uint64pow10)], narrowed := true }
def FnOverlapsUptoSaid : Prop := fnOverlapsUptoRow.holds Tryz.pinned (OpenSpec.upto fnOverlapsSpec)

/-- 'laws.FnOrdered', WHERE WHAT IT READS IS OF BULK AT MOST 1048576: true; the input reads as it did. -/
def fnOrderedUptoRow : OpenClaim := { program := "ytnocdggngfiebaagreatdoor", sum := "ef6189ad35f9329437a6c9c846d0ff30a3dfb7ce014ccf432c32207ed014d2e8", func := "loop.example/instancesearch/laws.FnOrdered", spec := "fnOrdered", inPlace := ["internal/bytealg.IndexByteString", "internal/bytealg.IndexString", "internal/abi.NoEscape", "internal/bytealg.MakeNoZero"], unfollowed := true, recurses := true, named := ["internal/bytealg.MaxLen", "internal/strconv.uint64pow10", "math/bits.deBruijn32tab", "math/bits.deBruijn64tab"], apart := false, laid := [("math/bits.deBruijn32tab", laid_math_bits_deBruijn32tab), ("math/bits.deBruijn64tab", laid_math_bits_deBruijn64tab), ("internal/strconv.uint64pow10", laid_internal_strconv_uint64pow10)], narrowed := true }
def FnOrderedUptoSaid : Prop := fnOrderedUptoRow.holds Tryz.pinned (OpenSpec.upto fnOrderedSpec)

/-- 'laws.FnTypesHaving', WHERE WHAT IT READS IS OF BULK AT MOST 1048576: true; the input reads as it did. -/
def fnTypesHavingUptoRow : OpenClaim := { program := "ytnocdggngfiebaagreatdoor", sum := "ef6189ad35f9329437a6c9c846d0ff30a3dfb7ce014ccf432c32207ed014d2e8", func := "loop.example/instancesearch/laws.FnTypesHaving", spec := "fnTypesHaving", inPlace := ["internal/bytealg.IndexByteString", "internal/bytealg.IndexString", "internal/abi.NoEscape", "internal/bytealg.MakeNoZero", "internal/bytealg.CountString"], unfollowed := true, recurses := true, named := ["internal/bytealg.MaxLen", "internal/strconv.uint64pow10", "math/bits.deBruijn32tab", "math/bits.deBruijn64tab"], apart := false, laid := [("math/bits.deBruijn32tab", laid_math_bits_deBruijn32tab), ("math/bits.deBruijn64tab", laid_math_bits_deBruijn64tab), ("internal/strconv.uint64pow10", laid_internal_strconv_uint64pow10)], narrowed := true }
def FnTypesHavingUptoSaid : Prop := fnTypesHavingUptoRow.holds Tryz.pinned (OpenSpec.upto fnTypesHavingSpec)

end Rows
end Go.Proofs.YtnocdggngfiebaaGreatDoor
