/-
  No cell of these rows narrows 'for every input' (looked for: loops, veiled, ifaces, maps, wideKeys, modest, calm, conditions, laid).
  DERIVED. THE GIVEN ROWS OF THIS SEAT. 13 by the template 'for every input the law returns true; each argument reads behind the call as it read before'; 0 by the template 'total and deterministic' (their statements: YtmfiggbobaihcaaTotals.lean).
  GIVEN WITH THE SEED: the statements are not yours to turn. If you find one false, say at which input.
  Laid BY PROGRAM, IN A SANDBOX (cutbox-rows.mjs): the forced cells as the released guide's own fill.sh prints them over the translation 7c850f140772ee3d… (all of the seat's roots in one cut). By AI agents, Wed Nov 11 2026. No macro, syntax, notation, axiom, sorry.
-/
import Derived.Test.YtmfiggbobaihcaaChecked
import GoSem.Claim
import GoSem.ClaimJoined
import GoSem.ClaimMapViews
import Derived.JoinedTies
import Derived.KernelRfl
namespace Go.Proofs.Ytmfiggbobaihcaa
/- THE CELL 'sum', in the pinned program and in every row, IS THE sha256 OF THE DUMP (.gsa) THAT YtmfiggbobaihcaaProg.lean LOADS. Nothing in Lean hashes anything: it is a label: what it is worth is what the hold of that sum in a sandbox is worth. -/
noncomputable def Try.pinned : Pinned := { name := "ytmfiggbobaihcaa", sum := "7c850f140772ee3d6e7cff75d2dd97405d54164db1c5c1433479e2762c921a05", checked := Try.checked }
namespace Rows
def none {H : Type} : Left H := { results := [], args := [] }

/-- 'crossbandlaw09.GradeShops': WHATEVER THE INPUT: true; the input reads as it did. -/
def gradeShopsSpec : ChangeSpec := { name := "gradeShops", fn := fun _ => fun
  | [d1, d2, d3] => { results := [.lit (.bool true)], args := [d1, d2, d3] }
  | _ => none }
def gradeShopsRow : OpenClaim := { program := "ytmfiggbobaihcaa", sum := "7c850f140772ee3d6e7cff75d2dd97405d54164db1c5c1433479e2762c921a05", func := "crossband/crossbandlaw09.GradeShops", spec := "gradeShops", unfollowed := true, recurses := true, plainKeys := false, apart := false }
def GradeShopsSaid : Prop := gradeShopsRow.holds Try.pinned (OpenSpec.ofChange gradeShopsSpec)

/-- ITS FALSE NEIGHBOUR: 'it returns false'. Refute it at one input. -/
def gradeShopsWrong : ChangeSpec := { name := "gradeShops", fn := fun _ => fun
  | [d1, d2, d3] => { results := [.lit (.bool false)], args := [d1, d2, d3] }
  | _ => none }
def GradeShopsWrongFalsely : Prop := gradeShopsRow.holds Try.pinned (OpenSpec.ofChange gradeShopsWrong)

/-- 'crossbandlaw09.GradeSpends': WHATEVER THE INPUT: true; the input reads as it did. -/
def gradeSpendsSpec : ChangeSpec := { name := "gradeSpends", fn := fun _ => fun
  | [d] => { results := [.lit (.bool true)], args := [d] }
  | _ => none }
def gradeSpendsRow : OpenClaim := { program := "ytmfiggbobaihcaa", sum := "7c850f140772ee3d6e7cff75d2dd97405d54164db1c5c1433479e2762c921a05", func := "crossband/crossbandlaw09.GradeSpends", spec := "gradeSpends", unfollowed := true, recurses := true, plainKeys := false, apart := false }
def GradeSpendsSaid : Prop := gradeSpendsRow.holds Try.pinned (OpenSpec.ofChange gradeSpendsSpec)

/-- ITS FALSE NEIGHBOUR: 'it returns false'. Refute it at one input. -/
def gradeSpendsWrong : ChangeSpec := { name := "gradeSpends", fn := fun _ => fun
  | [d] => { results := [.lit (.bool false)], args := [d] }
  | _ => none }
def GradeSpendsWrongFalsely : Prop := gradeSpendsRow.holds Try.pinned (OpenSpec.ofChange gradeSpendsWrong)

/-- 'crossbandlaw09.GradeProofs': WHATEVER THE INPUT: true; the input reads as it did. -/
def gradeProofsSpec : ChangeSpec := { name := "gradeProofs", fn := fun _ => fun
  | [d1, d2, d3] => { results := [.lit (.bool true)], args := [d1, d2, d3] }
  | _ => none }
def gradeProofsRow : OpenClaim := { program := "ytmfiggbobaihcaa", sum := "7c850f140772ee3d6e7cff75d2dd97405d54164db1c5c1433479e2762c921a05", func := "crossband/crossbandlaw09.GradeProofs", spec := "gradeProofs", unfollowed := true, recurses := true, plainKeys := false, apart := false }
def GradeProofsSaid : Prop := gradeProofsRow.holds Try.pinned (OpenSpec.ofChange gradeProofsSpec)

/-- ITS FALSE NEIGHBOUR: 'it returns false'. Refute it at one input. -/
def gradeProofsWrong : ChangeSpec := { name := "gradeProofs", fn := fun _ => fun
  | [d1, d2, d3] => { results := [.lit (.bool false)], args := [d1, d2, d3] }
  | _ => none }
def GradeProofsWrongFalsely : Prop := gradeProofsRow.holds Try.pinned (OpenSpec.ofChange gradeProofsWrong)

/-- 'crossbandlaw09.GradeSpans': WHATEVER THE INPUT: true; the input reads as it did. -/
def gradeSpansSpec : ChangeSpec := { name := "gradeSpans", fn := fun _ => fun
  | [d1, d2] => { results := [.lit (.bool true)], args := [d1, d2] }
  | _ => none }
def gradeSpansRow : OpenClaim := { program := "ytmfiggbobaihcaa", sum := "7c850f140772ee3d6e7cff75d2dd97405d54164db1c5c1433479e2762c921a05", func := "crossband/crossbandlaw09.GradeSpans", spec := "gradeSpans", unfollowed := true, recurses := true, plainKeys := false, apart := false }
def GradeSpansSaid : Prop := gradeSpansRow.holds Try.pinned (OpenSpec.ofChange gradeSpansSpec)

/-- ITS FALSE NEIGHBOUR: 'it returns false'. Refute it at one input. -/
def gradeSpansWrong : ChangeSpec := { name := "gradeSpans", fn := fun _ => fun
  | [d1, d2] => { results := [.lit (.bool false)], args := [d1, d2] }
  | _ => none }
def GradeSpansWrongFalsely : Prop := gradeSpansRow.holds Try.pinned (OpenSpec.ofChange gradeSpansWrong)

/-- 'crossbandlaw09.GradeEither': WHATEVER THE INPUT: true; the input reads as it did. -/
def gradeEitherSpec : ChangeSpec := { name := "gradeEither", fn := fun _ => fun
  | [d1, d2, d3] => { results := [.lit (.bool true)], args := [d1, d2, d3] }
  | _ => none }
def gradeEitherRow : OpenClaim := { program := "ytmfiggbobaihcaa", sum := "7c850f140772ee3d6e7cff75d2dd97405d54164db1c5c1433479e2762c921a05", func := "crossband/crossbandlaw09.GradeEither", spec := "gradeEither", unfollowed := true, recurses := true, plainKeys := false, apart := false }
def GradeEitherSaid : Prop := gradeEitherRow.holds Try.pinned (OpenSpec.ofChange gradeEitherSpec)

/-- ITS FALSE NEIGHBOUR: 'it returns false'. Refute it at one input. -/
def gradeEitherWrong : ChangeSpec := { name := "gradeEither", fn := fun _ => fun
  | [d1, d2, d3] => { results := [.lit (.bool false)], args := [d1, d2, d3] }
  | _ => none }
def GradeEitherWrongFalsely : Prop := gradeEitherRow.holds Try.pinned (OpenSpec.ofChange gradeEitherWrong)

/-- 'crossbandlaw09.GradeProved': WHATEVER THE INPUT: true; the input reads as it did. -/
def gradeProvedSpec : ChangeSpec := { name := "gradeProved", fn := fun _ => fun
  | [d1, d2, d3] => { results := [.lit (.bool true)], args := [d1, d2, d3] }
  | _ => none }
def gradeProvedRow : OpenClaim := { program := "ytmfiggbobaihcaa", sum := "7c850f140772ee3d6e7cff75d2dd97405d54164db1c5c1433479e2762c921a05", func := "crossband/crossbandlaw09.GradeProved", spec := "gradeProved", unfollowed := true, recurses := true, plainKeys := false, apart := false }
def GradeProvedSaid : Prop := gradeProvedRow.holds Try.pinned (OpenSpec.ofChange gradeProvedSpec)

/-- ITS FALSE NEIGHBOUR: 'it returns false'. Refute it at one input. -/
def gradeProvedWrong : ChangeSpec := { name := "gradeProved", fn := fun _ => fun
  | [d1, d2, d3] => { results := [.lit (.bool false)], args := [d1, d2, d3] }
  | _ => none }
def GradeProvedWrongFalsely : Prop := gradeProvedRow.holds Try.pinned (OpenSpec.ofChange gradeProvedWrong)

/-- 'crossbandlaw09.GradeSpent': WHATEVER THE INPUT: true; the input reads as it did. -/
def gradeSpentSpec : ChangeSpec := { name := "gradeSpent", fn := fun _ => fun
  | [d1, d2, d3] => { results := [.lit (.bool true)], args := [d1, d2, d3] }
  | _ => none }
def gradeSpentRow : OpenClaim := { program := "ytmfiggbobaihcaa", sum := "7c850f140772ee3d6e7cff75d2dd97405d54164db1c5c1433479e2762c921a05", func := "crossband/crossbandlaw09.GradeSpent", spec := "gradeSpent", unfollowed := true, recurses := true, plainKeys := false, apart := false }
def GradeSpentSaid : Prop := gradeSpentRow.holds Try.pinned (OpenSpec.ofChange gradeSpentSpec)

/-- ITS FALSE NEIGHBOUR: 'it returns false'. Refute it at one input. -/
def gradeSpentWrong : ChangeSpec := { name := "gradeSpent", fn := fun _ => fun
  | [d1, d2, d3] => { results := [.lit (.bool false)], args := [d1, d2, d3] }
  | _ => none }
def GradeSpentWrongFalsely : Prop := gradeSpentRow.holds Try.pinned (OpenSpec.ofChange gradeSpentWrong)

/-- 'crossbandlaw09.GradeWorth': WHATEVER THE INPUT: true; the input reads as it did. -/
def gradeWorthSpec : ChangeSpec := { name := "gradeWorth", fn := fun _ => fun
  | [d1, d2, d3] => { results := [.lit (.bool true)], args := [d1, d2, d3] }
  | _ => none }
def gradeWorthRow : OpenClaim := { program := "ytmfiggbobaihcaa", sum := "7c850f140772ee3d6e7cff75d2dd97405d54164db1c5c1433479e2762c921a05", func := "crossband/crossbandlaw09.GradeWorth", spec := "gradeWorth", unfollowed := true, recurses := true, plainKeys := false, apart := false }
def GradeWorthSaid : Prop := gradeWorthRow.holds Try.pinned (OpenSpec.ofChange gradeWorthSpec)

/-- ITS FALSE NEIGHBOUR: 'it returns false'. Refute it at one input. -/
def gradeWorthWrong : ChangeSpec := { name := "gradeWorth", fn := fun _ => fun
  | [d1, d2, d3] => { results := [.lit (.bool false)], args := [d1, d2, d3] }
  | _ => none }
def GradeWorthWrongFalsely : Prop := gradeWorthRow.holds Try.pinned (OpenSpec.ofChange gradeWorthWrong)

/-- 'crossbandlaw09.GradePrices': WHATEVER THE INPUT: true; the input reads as it did. -/
def gradePricesSpec : ChangeSpec := { name := "gradePrices", fn := fun _ => fun
  | [d1, d2, d3, d4] => { results := [.lit (.bool true)], args := [d1, d2, d3, d4] }
  | _ => none }
def gradePricesRow : OpenClaim := { program := "ytmfiggbobaihcaa", sum := "7c850f140772ee3d6e7cff75d2dd97405d54164db1c5c1433479e2762c921a05", func := "crossband/crossbandlaw09.GradePrices", spec := "gradePrices", unfollowed := true, recurses := true, plainKeys := false, apart := false }
def GradePricesSaid : Prop := gradePricesRow.holds Try.pinned (OpenSpec.ofChange gradePricesSpec)

/-- ITS FALSE NEIGHBOUR: 'it returns false'. Refute it at one input. -/
def gradePricesWrong : ChangeSpec := { name := "gradePrices", fn := fun _ => fun
  | [d1, d2, d3, d4] => { results := [.lit (.bool false)], args := [d1, d2, d3, d4] }
  | _ => none }
def GradePricesWrongFalsely : Prop := gradePricesRow.holds Try.pinned (OpenSpec.ofChange gradePricesWrong)

/-- 'crossbandlaw09.GradeOrders': WHATEVER THE INPUT: true; the input reads as it did. -/
def gradeOrdersSpec : ChangeSpec := { name := "gradeOrders", fn := fun _ => fun
  | [d1, d2] => { results := [.lit (.bool true)], args := [d1, d2] }
  | _ => none }
def gradeOrdersRow : OpenClaim := { program := "ytmfiggbobaihcaa", sum := "7c850f140772ee3d6e7cff75d2dd97405d54164db1c5c1433479e2762c921a05", func := "crossband/crossbandlaw09.GradeOrders", spec := "gradeOrders", unfollowed := true, recurses := true, plainKeys := false, apart := false }
def GradeOrdersSaid : Prop := gradeOrdersRow.holds Try.pinned (OpenSpec.ofChange gradeOrdersSpec)

/-- ITS FALSE NEIGHBOUR: 'it returns false'. Refute it at one input. -/
def gradeOrdersWrong : ChangeSpec := { name := "gradeOrders", fn := fun _ => fun
  | [d1, d2] => { results := [.lit (.bool false)], args := [d1, d2] }
  | _ => none }
def GradeOrdersWrongFalsely : Prop := gradeOrdersRow.holds Try.pinned (OpenSpec.ofChange gradeOrdersWrong)

/-- 'crossbandlaw09.GradeSpan': WHATEVER THE INPUT: true; the input reads as it did. -/
def gradeSpanSpec : ChangeSpec := { name := "gradeSpan", fn := fun _ => fun
  | [d1, d2, d3] => { results := [.lit (.bool true)], args := [d1, d2, d3] }
  | _ => none }
def gradeSpanRow : OpenClaim := { program := "ytmfiggbobaihcaa", sum := "7c850f140772ee3d6e7cff75d2dd97405d54164db1c5c1433479e2762c921a05", func := "crossband/crossbandlaw09.GradeSpan", spec := "gradeSpan", unfollowed := true, recurses := true, plainKeys := false, apart := false }
def GradeSpanSaid : Prop := gradeSpanRow.holds Try.pinned (OpenSpec.ofChange gradeSpanSpec)

/-- ITS FALSE NEIGHBOUR: 'it returns false'. Refute it at one input. -/
def gradeSpanWrong : ChangeSpec := { name := "gradeSpan", fn := fun _ => fun
  | [d1, d2, d3] => { results := [.lit (.bool false)], args := [d1, d2, d3] }
  | _ => none }
def GradeSpanWrongFalsely : Prop := gradeSpanRow.holds Try.pinned (OpenSpec.ofChange gradeSpanWrong)

/-- 'crossbandlaw09.GradeRefused': WHATEVER THE INPUT: true; the input reads as it did. -/
def gradeRefusedSpec : ChangeSpec := { name := "gradeRefused", fn := fun _ => fun
  | [d1, d2, d3, d4] => { results := [.lit (.bool true)], args := [d1, d2, d3, d4] }
  | _ => none }
def gradeRefusedRow : OpenClaim := { program := "ytmfiggbobaihcaa", sum := "7c850f140772ee3d6e7cff75d2dd97405d54164db1c5c1433479e2762c921a05", func := "crossband/crossbandlaw09.GradeRefused", spec := "gradeRefused", unfollowed := true, recurses := true, plainKeys := false, apart := false }
def GradeRefusedSaid : Prop := gradeRefusedRow.holds Try.pinned (OpenSpec.ofChange gradeRefusedSpec)

/-- ITS FALSE NEIGHBOUR: 'it returns false'. Refute it at one input. -/
def gradeRefusedWrong : ChangeSpec := { name := "gradeRefused", fn := fun _ => fun
  | [d1, d2, d3, d4] => { results := [.lit (.bool false)], args := [d1, d2, d3, d4] }
  | _ => none }
def GradeRefusedWrongFalsely : Prop := gradeRefusedRow.holds Try.pinned (OpenSpec.ofChange gradeRefusedWrong)

/-- 'crossbandlaw09.GradeKnown': WHATEVER THE INPUT: true; the input reads as it did. -/
def gradeKnownSpec : ChangeSpec := { name := "gradeKnown", fn := fun _ => fun
  | [] => { results := [.lit (.bool true)], args := [] }
  | _ => none }
def gradeKnownRow : OpenClaim := { program := "ytmfiggbobaihcaa", sum := "7c850f140772ee3d6e7cff75d2dd97405d54164db1c5c1433479e2762c921a05", func := "crossband/crossbandlaw09.GradeKnown", spec := "gradeKnown", unfollowed := true, recurses := true, plainKeys := false, apart := false }
def GradeKnownSaid : Prop := gradeKnownRow.holds Try.pinned (OpenSpec.ofChange gradeKnownSpec)

/-- ITS FALSE NEIGHBOUR: 'it returns false'. Refute it at one input. -/
def gradeKnownWrong : ChangeSpec := { name := "gradeKnown", fn := fun _ => fun
  | [] => { results := [.lit (.bool false)], args := [] }
  | _ => none }
def GradeKnownWrongFalsely : Prop := gradeKnownRow.holds Try.pinned (OpenSpec.ofChange gradeKnownWrong)

/- THE SECOND FORM. 'bulk': how many values and letters a reading holds, each counted each time it is reached (what is shared counts as often as it is met; a slice's spare places count too). A statement '..UptoSaid' is the law's where the arguments, and the package variables that the reading takes, are together of bulk at most 1048576: NARROWER than '..Said'. Prove '..Said' where nothing that the law and all that it calls make is longer than what came in: it says more and counts as full. Else prove '..UptoSaid'. A law counts once. -/
mutual
def uptoBulk {H : Type} : DataW H → Nat
  | .lit (.string bytes) => bytes.length + 1
  | .lit _ => 1
  | .nil => 1
  | .ptr d => uptoBulk d + 1
  | .slice elems spare => uptoBulkAll elems + uptoBulkAll spare + 1
  | .agg parts => uptoBulkAll parts + 1
  | .iface _ d => uptoBulk d + 1
  | .map entries => uptoBulkEntries entries + 1
  | .held _ => 1
def uptoBulkAll {H : Type} : List (DataW H) → Nat
  | [] => 0
  | d :: r => uptoBulk d + uptoBulkAll r
def uptoBulkEntries {H : Type} : List (Lit × DataW H) → Nat
  | [] => 0
  | x :: r => uptoBulkEntry x + uptoBulkEntries r
def uptoBulkEntry {H : Type} : Lit × DataW H → Nat
  | (.string bytes, d) => bytes.length + uptoBulk d + 1
  | (_, d) => uptoBulk d + 1
 end
def uptoSmall : (H : Type) → List (DataW H) → Bool := fun _ ds => decide (uptoBulkAll ds ≤ 1048576)
def OpenSpec.upto (s : _root_.Go.ChangeSpec) : _root_.Go.OpenSpec := { _root_.Go.OpenSpec.ofChange s with cond := some uptoSmall }

/-- 'crossbandlaw09.GradeShops', WHERE WHAT IT READS IS OF BULK AT MOST 1048576: true; the input reads as it did. -/
def gradeShopsUptoRow : OpenClaim := { program := "ytmfiggbobaihcaa", sum := "7c850f140772ee3d6e7cff75d2dd97405d54164db1c5c1433479e2762c921a05", func := "crossband/crossbandlaw09.GradeShops", spec := "gradeShops", unfollowed := true, recurses := true, plainKeys := false, apart := false, narrowed := true }
def GradeShopsUptoSaid : Prop := gradeShopsUptoRow.holds Try.pinned (OpenSpec.upto gradeShopsSpec)

/-- 'crossbandlaw09.GradeSpends', WHERE WHAT IT READS IS OF BULK AT MOST 1048576: true; the input reads as it did. -/
def gradeSpendsUptoRow : OpenClaim := { program := "ytmfiggbobaihcaa", sum := "7c850f140772ee3d6e7cff75d2dd97405d54164db1c5c1433479e2762c921a05", func := "crossband/crossbandlaw09.GradeSpends", spec := "gradeSpends", unfollowed := true, recurses := true, plainKeys := false, apart := false, narrowed := true }
def GradeSpendsUptoSaid : Prop := gradeSpendsUptoRow.holds Try.pinned (OpenSpec.upto gradeSpendsSpec)

/-- 'crossbandlaw09.GradeProofs', WHERE WHAT IT READS IS OF BULK AT MOST 1048576: true; the input reads as it did. -/
def gradeProofsUptoRow : OpenClaim := { program := "ytmfiggbobaihcaa", sum := "7c850f140772ee3d6e7cff75d2dd97405d54164db1c5c1433479e2762c921a05", func := "crossband/crossbandlaw09.GradeProofs", spec := "gradeProofs", unfollowed := true, recurses := true, plainKeys := false, apart := false, narrowed := true }
def GradeProofsUptoSaid : Prop := gradeProofsUptoRow.holds Try.pinned (OpenSpec.upto gradeProofsSpec)

/-- 'crossbandlaw09.GradeSpans', WHERE WHAT IT READS IS OF BULK AT MOST 1048576: true; the input reads as it did. -/
def gradeSpansUptoRow : OpenClaim := { program := "ytmfiggbobaihcaa", sum := "7c850f140772ee3d6e7cff75d2dd97405d54164db1c5c1433479e2762c921a05", func := "crossband/crossbandlaw09.GradeSpans", spec := "gradeSpans", unfollowed := true, recurses := true, plainKeys := false, apart := false, narrowed := true }
def GradeSpansUptoSaid : Prop := gradeSpansUptoRow.holds Try.pinned (OpenSpec.upto gradeSpansSpec)

/-- 'crossbandlaw09.GradeEither', WHERE WHAT IT READS IS OF BULK AT MOST 1048576: true; the input reads as it did. -/
def gradeEitherUptoRow : OpenClaim := { program := "ytmfiggbobaihcaa", sum := "7c850f140772ee3d6e7cff75d2dd97405d54164db1c5c1433479e2762c921a05", func := "crossband/crossbandlaw09.GradeEither", spec := "gradeEither", unfollowed := true, recurses := true, plainKeys := false, apart := false, narrowed := true }
def GradeEitherUptoSaid : Prop := gradeEitherUptoRow.holds Try.pinned (OpenSpec.upto gradeEitherSpec)

/-- 'crossbandlaw09.GradeProved', WHERE WHAT IT READS IS OF BULK AT MOST 1048576: true; the input reads as it did. -/
def gradeProvedUptoRow : OpenClaim := { program := "ytmfiggbobaihcaa", sum := "7c850f140772ee3d6e7cff75d2dd97405d54164db1c5c1433479e2762c921a05", func := "crossband/crossbandlaw09.GradeProved", spec := "gradeProved", unfollowed := true, recurses := true, plainKeys := false, apart := false, narrowed := true }
def GradeProvedUptoSaid : Prop := gradeProvedUptoRow.holds Try.pinned (OpenSpec.upto gradeProvedSpec)

/-- 'crossbandlaw09.GradeSpent', WHERE WHAT IT READS IS OF BULK AT MOST 1048576: true; the input reads as it did. -/
def gradeSpentUptoRow : OpenClaim := { program := "ytmfiggbobaihcaa", sum := "7c850f140772ee3d6e7cff75d2dd97405d54164db1c5c1433479e2762c921a05", func := "crossband/crossbandlaw09.GradeSpent", spec := "gradeSpent", unfollowed := true, recurses := true, plainKeys := false, apart := false, narrowed := true }
def GradeSpentUptoSaid : Prop := gradeSpentUptoRow.holds Try.pinned (OpenSpec.upto gradeSpentSpec)

/-- 'crossbandlaw09.GradeWorth', WHERE WHAT IT READS IS OF BULK AT MOST 1048576: true; the input reads as it did. -/
def gradeWorthUptoRow : OpenClaim := { program := "ytmfiggbobaihcaa", sum := "7c850f140772ee3d6e7cff75d2dd97405d54164db1c5c1433479e2762c921a05", func := "crossband/crossbandlaw09.GradeWorth", spec := "gradeWorth", unfollowed := true, recurses := true, plainKeys := false, apart := false, narrowed := true }
def GradeWorthUptoSaid : Prop := gradeWorthUptoRow.holds Try.pinned (OpenSpec.upto gradeWorthSpec)

/-- 'crossbandlaw09.GradePrices', WHERE WHAT IT READS IS OF BULK AT MOST 1048576: true; the input reads as it did. -/
def gradePricesUptoRow : OpenClaim := { program := "ytmfiggbobaihcaa", sum := "7c850f140772ee3d6e7cff75d2dd97405d54164db1c5c1433479e2762c921a05", func := "crossband/crossbandlaw09.GradePrices", spec := "gradePrices", unfollowed := true, recurses := true, plainKeys := false, apart := false, narrowed := true }
def GradePricesUptoSaid : Prop := gradePricesUptoRow.holds Try.pinned (OpenSpec.upto gradePricesSpec)

/-- 'crossbandlaw09.GradeOrders', WHERE WHAT IT READS IS OF BULK AT MOST 1048576: true; the input reads as it did. -/
def gradeOrdersUptoRow : OpenClaim := { program := "ytmfiggbobaihcaa", sum := "7c850f140772ee3d6e7cff75d2dd97405d54164db1c5c1433479e2762c921a05", func := "crossband/crossbandlaw09.GradeOrders", spec := "gradeOrders", unfollowed := true, recurses := true, plainKeys := false, apart := false, narrowed := true }
def GradeOrdersUptoSaid : Prop := gradeOrdersUptoRow.holds Try.pinned (OpenSpec.upto gradeOrdersSpec)

/-- 'crossbandlaw09.GradeSpan', WHERE WHAT IT READS IS OF BULK AT MOST 1048576: true; the input reads as it did. -/
def gradeSpanUptoRow : OpenClaim := { program := "ytmfiggbobaihcaa", sum := "7c850f140772ee3d6e7cff75d2dd97405d54164db1c5c1433479e2762c921a05", func := "crossband/crossbandlaw09.GradeSpan", spec := "gradeSpan", unfollowed := true, recurses := true, plainKeys := false, apart := false, narrowed := true }
def GradeSpanUptoSaid : Prop := gradeSpanUptoRow.holds Try.pinned (OpenSpec.upto gradeSpanSpec)

/-- 'crossbandlaw09.GradeRefused', WHERE WHAT IT READS IS OF BULK AT MOST 1048576: true; the input reads as it did. -/
def gradeRefusedUptoRow : OpenClaim := { program := "ytmfiggbobaihcaa", sum := "7c850f140772ee3d6e7cff75d2dd97405d54164db1c5c1433479e2762c921a05", func := "crossband/crossbandlaw09.GradeRefused", spec := "gradeRefused", unfollowed := true, recurses := true, plainKeys := false, apart := false, narrowed := true }
def GradeRefusedUptoSaid : Prop := gradeRefusedUptoRow.holds Try.pinned (OpenSpec.upto gradeRefusedSpec)

/-- 'crossbandlaw09.GradeKnown', WHERE WHAT IT READS IS OF BULK AT MOST 1048576: true; the input reads as it did. -/
def gradeKnownUptoRow : OpenClaim := { program := "ytmfiggbobaihcaa", sum := "7c850f140772ee3d6e7cff75d2dd97405d54164db1c5c1433479e2762c921a05", func := "crossband/crossbandlaw09.GradeKnown", spec := "gradeKnown", unfollowed := true, recurses := true, plainKeys := false, apart := false, narrowed := true }
def GradeKnownUptoSaid : Prop := gradeKnownUptoRow.holds Try.pinned (OpenSpec.upto gradeKnownSpec)

end Rows
end Go.Proofs.Ytmfiggbobaihcaa
