/-
  No cell of these rows narrows 'for every input' (looked for: loops, veiled, ifaces, maps, wideKeys, modest, calm, conditions, laid).
  DERIVED. THE GIVEN ROWS OF THIS SEAT. 12 by the template 'for every input the law returns true; each argument reads behind the call as it read before'; 0 by the template 'total and deterministic' (their statements: YtmenifpibbjicaaTotals.lean).
  GIVEN WITH THE SEED: the statements are not yours to turn. If you find one false, say at which input.
  Laid BY PROGRAM, IN A SANDBOX (cutbox-rows.mjs): the forced cells as the released guide's own fill.sh prints them over the translation 6a936a8ab03956d1… (all of the seat's roots in one cut). By AI agents, Wed Nov 11 2026. No macro, syntax, notation, axiom, sorry.
-/
import Derived.Test.YtmenifpibbjicaaChecked
import GoSem.Claim
import GoSem.ClaimJoined
import GoSem.ClaimMapViews
import Derived.JoinedTies
import Derived.KernelRfl
namespace Go.Proofs.Ytmenifpibbjicaa
/- THE CELL 'sum', in the pinned program and in every row, IS THE sha256 OF THE DUMP (.gsa) THAT YtmenifpibbjicaaProg.lean LOADS. Nothing in Lean hashes anything: it is a label: what it is worth is what the hold of that sum in a sandbox is worth. -/
noncomputable def Try.pinned : Pinned := { name := "ytmenifpibbjicaa", sum := "6a936a8ab03956d17006d54bb4ea04674bf73a44b3a584115f20354bc79ed1ea", checked := Try.checked }
namespace Rows
def none {H : Type} : Left H := { results := [], args := [] }

/-- 'hanselaw01.TickJoins': WHATEVER THE INPUT: true; the input reads as it did. -/
def tickJoinsSpec : ChangeSpec := { name := "tickJoins", fn := fun _ => fun
  | [d1, d2, d3] => { results := [.lit (.bool true)], args := [d1, d2, d3] }
  | _ => none }
def tickJoinsRow : OpenClaim := { program := "ytmenifpibbjicaa", sum := "6a936a8ab03956d17006d54bb4ea04674bf73a44b3a584115f20354bc79ed1ea", func := "hanse/hanselaw01.TickJoins", spec := "tickJoins", apart := false }
def TickJoinsSaid : Prop := tickJoinsRow.holds Try.pinned (OpenSpec.ofChange tickJoinsSpec)

/-- ITS FALSE NEIGHBOUR: 'it returns false'. Refute it at one input. -/
def tickJoinsWrong : ChangeSpec := { name := "tickJoins", fn := fun _ => fun
  | [d1, d2, d3] => { results := [.lit (.bool false)], args := [d1, d2, d3] }
  | _ => none }
def TickJoinsWrongFalsely : Prop := tickJoinsRow.holds Try.pinned (OpenSpec.ofChange tickJoinsWrong)

/-- 'hanselaw01.TickBack': WHATEVER THE INPUT: true; the input reads as it did. -/
def tickBackSpec : ChangeSpec := { name := "tickBack", fn := fun _ => fun
  | [d1, d2] => { results := [.lit (.bool true)], args := [d1, d2] }
  | _ => none }
def tickBackRow : OpenClaim := { program := "ytmenifpibbjicaa", sum := "6a936a8ab03956d17006d54bb4ea04674bf73a44b3a584115f20354bc79ed1ea", func := "hanse/hanselaw01.TickBack", spec := "tickBack", apart := false }
def TickBackSaid : Prop := tickBackRow.holds Try.pinned (OpenSpec.ofChange tickBackSpec)

/-- ITS FALSE NEIGHBOUR: 'it returns false'. Refute it at one input. -/
def tickBackWrong : ChangeSpec := { name := "tickBack", fn := fun _ => fun
  | [d1, d2] => { results := [.lit (.bool false)], args := [d1, d2] }
  | _ => none }
def TickBackWrongFalsely : Prop := tickBackRow.holds Try.pinned (OpenSpec.ofChange tickBackWrong)

/-- 'hanselaw01.TickLeast': WHATEVER THE INPUT: true; the input reads as it did. -/
def tickLeastSpec : ChangeSpec := { name := "tickLeast", fn := fun _ => fun
  | [d] => { results := [.lit (.bool true)], args := [d] }
  | _ => none }
def tickLeastRow : OpenClaim := { program := "ytmenifpibbjicaa", sum := "6a936a8ab03956d17006d54bb4ea04674bf73a44b3a584115f20354bc79ed1ea", func := "hanse/hanselaw01.TickLeast", spec := "tickLeast", apart := false }
def TickLeastSaid : Prop := tickLeastRow.holds Try.pinned (OpenSpec.ofChange tickLeastSpec)

/-- ITS FALSE NEIGHBOUR: 'it returns false'. Refute it at one input. -/
def tickLeastWrong : ChangeSpec := { name := "tickLeast", fn := fun _ => fun
  | [d] => { results := [.lit (.bool false)], args := [d] }
  | _ => none }
def TickLeastWrongFalsely : Prop := tickLeastRow.holds Try.pinned (OpenSpec.ofChange tickLeastWrong)

/-- 'hanselaw01.TickLeastOf': WHATEVER THE INPUT: true; the input reads as it did. -/
def tickLeastOfSpec : ChangeSpec := { name := "tickLeastOf", fn := fun _ => fun
  | [d1, d2] => { results := [.lit (.bool true)], args := [d1, d2] }
  | _ => none }
def tickLeastOfRow : OpenClaim := { program := "ytmenifpibbjicaa", sum := "6a936a8ab03956d17006d54bb4ea04674bf73a44b3a584115f20354bc79ed1ea", func := "hanse/hanselaw01.TickLeastOf", spec := "tickLeastOf", apart := false }
def TickLeastOfSaid : Prop := tickLeastOfRow.holds Try.pinned (OpenSpec.ofChange tickLeastOfSpec)

/-- ITS FALSE NEIGHBOUR: 'it returns false'. Refute it at one input. -/
def tickLeastOfWrong : ChangeSpec := { name := "tickLeastOf", fn := fun _ => fun
  | [d1, d2] => { results := [.lit (.bool false)], args := [d1, d2] }
  | _ => none }
def TickLeastOfWrongFalsely : Prop := tickLeastOfRow.holds Try.pinned (OpenSpec.ofChange tickLeastOfWrong)

/-- 'hanselaw01.TickEncloses': WHATEVER THE INPUT: true; the input reads as it did. -/
def tickEnclosesSpec : ChangeSpec := { name := "tickEncloses", fn := fun _ => fun
  | [d1, d2, d3] => { results := [.lit (.bool true)], args := [d1, d2, d3] }
  | _ => none }
def tickEnclosesRow : OpenClaim := { program := "ytmenifpibbjicaa", sum := "6a936a8ab03956d17006d54bb4ea04674bf73a44b3a584115f20354bc79ed1ea", func := "hanse/hanselaw01.TickEncloses", spec := "tickEncloses", apart := false }
def TickEnclosesSaid : Prop := tickEnclosesRow.holds Try.pinned (OpenSpec.ofChange tickEnclosesSpec)

/-- ITS FALSE NEIGHBOUR: 'it returns false'. Refute it at one input. -/
def tickEnclosesWrong : ChangeSpec := { name := "tickEncloses", fn := fun _ => fun
  | [d1, d2, d3] => { results := [.lit (.bool false)], args := [d1, d2, d3] }
  | _ => none }
def TickEnclosesWrongFalsely : Prop := tickEnclosesRow.holds Try.pinned (OpenSpec.ofChange tickEnclosesWrong)

/-- 'hanselaw01.TickParts': WHATEVER THE INPUT: true; the input reads as it did. -/
def tickPartsSpec : ChangeSpec := { name := "tickParts", fn := fun _ => fun
  | [d1, d2, d3] => { results := [.lit (.bool true)], args := [d1, d2, d3] }
  | _ => none }
def tickPartsRow : OpenClaim := { program := "ytmenifpibbjicaa", sum := "6a936a8ab03956d17006d54bb4ea04674bf73a44b3a584115f20354bc79ed1ea", func := "hanse/hanselaw01.TickParts", spec := "tickParts", apart := false }
def TickPartsSaid : Prop := tickPartsRow.holds Try.pinned (OpenSpec.ofChange tickPartsSpec)

/-- ITS FALSE NEIGHBOUR: 'it returns false'. Refute it at one input. -/
def tickPartsWrong : ChangeSpec := { name := "tickParts", fn := fun _ => fun
  | [d1, d2, d3] => { results := [.lit (.bool false)], args := [d1, d2, d3] }
  | _ => none }
def TickPartsWrongFalsely : Prop := tickPartsRow.holds Try.pinned (OpenSpec.ofChange tickPartsWrong)

/-- 'hanselaw01.TickOrder': WHATEVER THE INPUT: true; the input reads as it did. -/
def tickOrderSpec : ChangeSpec := { name := "tickOrder", fn := fun _ => fun
  | [d1, d2, d3, d4, d5] => { results := [.lit (.bool true)], args := [d1, d2, d3, d4, d5] }
  | _ => none }
def tickOrderRow : OpenClaim := { program := "ytmenifpibbjicaa", sum := "6a936a8ab03956d17006d54bb4ea04674bf73a44b3a584115f20354bc79ed1ea", func := "hanse/hanselaw01.TickOrder", spec := "tickOrder", apart := false }
def TickOrderSaid : Prop := tickOrderRow.holds Try.pinned (OpenSpec.ofChange tickOrderSpec)

/-- ITS FALSE NEIGHBOUR: 'it returns false'. Refute it at one input. -/
def tickOrderWrong : ChangeSpec := { name := "tickOrder", fn := fun _ => fun
  | [d1, d2, d3, d4, d5] => { results := [.lit (.bool false)], args := [d1, d2, d3, d4, d5] }
  | _ => none }
def TickOrderWrongFalsely : Prop := tickOrderRow.holds Try.pinned (OpenSpec.ofChange tickOrderWrong)

/-- 'hanselaw14.LeaseGuards': WHATEVER THE INPUT: true; the input reads as it did. -/
def leaseGuardsSpec : ChangeSpec := { name := "leaseGuards", fn := fun _ => fun
  | [d1, d2, d3, d4] => { results := [.lit (.bool true)], args := [d1, d2, d3, d4] }
  | _ => none }
def leaseGuardsRow : OpenClaim := { program := "ytmenifpibbjicaa", sum := "6a936a8ab03956d17006d54bb4ea04674bf73a44b3a584115f20354bc79ed1ea", func := "hanse/hanselaw14.LeaseGuards", spec := "leaseGuards", apart := false }
def LeaseGuardsSaid : Prop := leaseGuardsRow.holds Try.pinned (OpenSpec.ofChange leaseGuardsSpec)

/-- ITS FALSE NEIGHBOUR: 'it returns false'. Refute it at one input. -/
def leaseGuardsWrong : ChangeSpec := { name := "leaseGuards", fn := fun _ => fun
  | [d1, d2, d3, d4] => { results := [.lit (.bool false)], args := [d1, d2, d3, d4] }
  | _ => none }
def LeaseGuardsWrongFalsely : Prop := leaseGuardsRow.holds Try.pinned (OpenSpec.ofChange leaseGuardsWrong)

/-- 'hanselaw14.LeaseGrows': WHATEVER THE INPUT: true; the input reads as it did. -/
def leaseGrowsSpec : ChangeSpec := { name := "leaseGrows", fn := fun _ => fun
  | [d1, d2, d3, d4] => { results := [.lit (.bool true)], args := [d1, d2, d3, d4] }
  | _ => none }
def leaseGrowsRow : OpenClaim := { program := "ytmenifpibbjicaa", sum := "6a936a8ab03956d17006d54bb4ea04674bf73a44b3a584115f20354bc79ed1ea", func := "hanse/hanselaw14.LeaseGrows", spec := "leaseGrows", apart := false }
def LeaseGrowsSaid : Prop := leaseGrowsRow.holds Try.pinned (OpenSpec.ofChange leaseGrowsSpec)

/-- ITS FALSE NEIGHBOUR: 'it returns false'. Refute it at one input. -/
def leaseGrowsWrong : ChangeSpec := { name := "leaseGrows", fn := fun _ => fun
  | [d1, d2, d3, d4] => { results := [.lit (.bool false)], args := [d1, d2, d3, d4] }
  | _ => none }
def LeaseGrowsWrongFalsely : Prop := leaseGrowsRow.holds Try.pinned (OpenSpec.ofChange leaseGrowsWrong)

/-- 'hanselaw01.TickExact': WHATEVER THE INPUT: true; the input reads as it did. -/
def tickExactSpec : ChangeSpec := { name := "tickExact", fn := fun _ => fun
  | [d1, d2, d3, d4] => { results := [.lit (.bool true)], args := [d1, d2, d3, d4] }
  | _ => none }
def tickExactRow : OpenClaim := { program := "ytmenifpibbjicaa", sum := "6a936a8ab03956d17006d54bb4ea04674bf73a44b3a584115f20354bc79ed1ea", func := "hanse/hanselaw01.TickExact", spec := "tickExact", apart := false }
def TickExactSaid : Prop := tickExactRow.holds Try.pinned (OpenSpec.ofChange tickExactSpec)

/-- ITS FALSE NEIGHBOUR: 'it returns false'. Refute it at one input. -/
def tickExactWrong : ChangeSpec := { name := "tickExact", fn := fun _ => fun
  | [d1, d2, d3, d4] => { results := [.lit (.bool false)], args := [d1, d2, d3, d4] }
  | _ => none }
def TickExactWrongFalsely : Prop := tickExactRow.holds Try.pinned (OpenSpec.ofChange tickExactWrong)

/-- 'hanselaw14.LeaseSafe': WHATEVER THE INPUT: true; the input reads as it did. -/
def leaseSafeSpec : ChangeSpec := { name := "leaseSafe", fn := fun _ => fun
  | [d1, d2, d3, d4, d5] => { results := [.lit (.bool true)], args := [d1, d2, d3, d4, d5] }
  | _ => none }
def leaseSafeRow : OpenClaim := { program := "ytmenifpibbjicaa", sum := "6a936a8ab03956d17006d54bb4ea04674bf73a44b3a584115f20354bc79ed1ea", func := "hanse/hanselaw14.LeaseSafe", spec := "leaseSafe", apart := false }
def LeaseSafeSaid : Prop := leaseSafeRow.holds Try.pinned (OpenSpec.ofChange leaseSafeSpec)

/-- ITS FALSE NEIGHBOUR: 'it returns false'. Refute it at one input. -/
def leaseSafeWrong : ChangeSpec := { name := "leaseSafe", fn := fun _ => fun
  | [d1, d2, d3, d4, d5] => { results := [.lit (.bool false)], args := [d1, d2, d3, d4, d5] }
  | _ => none }
def LeaseSafeWrongFalsely : Prop := leaseSafeRow.holds Try.pinned (OpenSpec.ofChange leaseSafeWrong)

/-- 'hanselaw14.LeaseEnds': WHATEVER THE INPUT: true; the input reads as it did. -/
def leaseEndsSpec : ChangeSpec := { name := "leaseEnds", fn := fun _ => fun
  | [d1, d2, d3, d4] => { results := [.lit (.bool true)], args := [d1, d2, d3, d4] }
  | _ => none }
def leaseEndsRow : OpenClaim := { program := "ytmenifpibbjicaa", sum := "6a936a8ab03956d17006d54bb4ea04674bf73a44b3a584115f20354bc79ed1ea", func := "hanse/hanselaw14.LeaseEnds", spec := "leaseEnds", apart := false }
def LeaseEndsSaid : Prop := leaseEndsRow.holds Try.pinned (OpenSpec.ofChange leaseEndsSpec)

/-- ITS FALSE NEIGHBOUR: 'it returns false'. Refute it at one input. -/
def leaseEndsWrong : ChangeSpec := { name := "leaseEnds", fn := fun _ => fun
  | [d1, d2, d3, d4] => { results := [.lit (.bool false)], args := [d1, d2, d3, d4] }
  | _ => none }
def LeaseEndsWrongFalsely : Prop := leaseEndsRow.holds Try.pinned (OpenSpec.ofChange leaseEndsWrong)

/- THE SECOND FORM. 'bulk': how many values and letters a reading holds, each counted each time it is reached (what is shared counts as often as it is met; a slice's spare places count too). A statement '..UptoSaid' is the law's where the arguments, and the package variables that the reading takes, are together of bulk at most 1048576: NARROWER than '..Said'. Prove '..Said' where nothing that the law and all that it calls make is longer than what came in: it says more and counts as full. Else prove '..UptoSaid'. A law counts once. -/
mutual
def uptoBulk {H : Type} : DataW H → Nat
  | .lit (.string bytes) => bytes.length + 1
  | .lit _ => 1
  | .nil => 1
  | .ptr d => uptoBulk d + 1
  | .slice elems spare => uptoBulkAll elems + uptoBulkAll spare + 1
  | .agg parts => uptoBulkAll parts + 1
  | .iface _ d => uptoBulk d + 1
  | .map entries => uptoBulkEntries entries + 1
  | .held _ => 1
def uptoBulkAll {H : Type} : List (DataW H) → Nat
  | [] => 0
  | d :: r => uptoBulk d + uptoBulkAll r
def uptoBulkEntries {H : Type} : List (Lit × DataW H) → Nat
  | [] => 0
  | x :: r => uptoBulkEntry x + uptoBulkEntries r
def uptoBulkEntry {H : Type} : Lit × DataW H → Nat
  | (.string bytes, d) => bytes.length + uptoBulk d + 1
  | (_, d) => uptoBulk d + 1
 end
def uptoSmall : (H : Type) → List (DataW H) → Bool := fun _ ds => decide (uptoBulkAll ds ≤ 1048576)
def OpenSpec.upto (s : _root_.Go.ChangeSpec) : _root_.Go.OpenSpec := { _root_.Go.OpenSpec.ofChange s with cond := some uptoSmall }

/-- 'hanselaw01.TickJoins', WHERE WHAT IT READS IS OF BULK AT MOST 1048576: true; the input reads as it did. -/
def tickJoinsUptoRow : OpenClaim := { program := "ytmenifpibbjicaa", sum := "6a936a8ab03956d17006d54bb4ea04674bf73a44b3a584115f20354bc79ed1ea", func := "hanse/hanselaw01.TickJoins", spec := "tickJoins", apart := false, narrowed := true }
def TickJoinsUptoSaid : Prop := tickJoinsUptoRow.holds Try.pinned (OpenSpec.upto tickJoinsSpec)

/-- 'hanselaw01.TickBack', WHERE WHAT IT READS IS OF BULK AT MOST 1048576: true; the input reads as it did. -/
def tickBackUptoRow : OpenClaim := { program := "ytmenifpibbjicaa", sum := "6a936a8ab03956d17006d54bb4ea04674bf73a44b3a584115f20354bc79ed1ea", func := "hanse/hanselaw01.TickBack", spec := "tickBack", apart := false, narrowed := true }
def TickBackUptoSaid : Prop := tickBackUptoRow.holds Try.pinned (OpenSpec.upto tickBackSpec)

/-- 'hanselaw01.TickLeast', WHERE WHAT IT READS IS OF BULK AT MOST 1048576: true; the input reads as it did. -/
def tickLeastUptoRow : OpenClaim := { program := "ytmenifpibbjicaa", sum := "6a936a8ab03956d17006d54bb4ea04674bf73a44b3a584115f20354bc79ed1ea", func := "hanse/hanselaw01.TickLeast", spec := "tickLeast", apart := false, narrowed := true }
def TickLeastUptoSaid : Prop := tickLeastUptoRow.holds Try.pinned (OpenSpec.upto tickLeastSpec)

/-- 'hanselaw01.TickLeastOf', WHERE WHAT IT READS IS OF BULK AT MOST 1048576: true; the input reads as it did. -/
def tickLeastOfUptoRow : OpenClaim := { program := "ytmenifpibbjicaa", sum := "6a936a8ab03956d17006d54bb4ea04674bf73a44b3a584115f20354bc79ed1ea", func := "hanse/hanselaw01.TickLeastOf", spec := "tickLeastOf", apart := false, narrowed := true }
def TickLeastOfUptoSaid : Prop := tickLeastOfUptoRow.holds Try.pinned (OpenSpec.upto tickLeastOfSpec)

/-- 'hanselaw01.TickEncloses', WHERE WHAT IT READS IS OF BULK AT MOST 1048576: true; the input reads as it did. -/
def tickEnclosesUptoRow : OpenClaim := { program := "ytmenifpibbjicaa", sum := "6a936a8ab03956d17006d54bb4ea04674bf73a44b3a584115f20354bc79ed1ea", func := "hanse/hanselaw01.TickEncloses", spec := "tickEncloses", apart := false, narrowed := true }
def TickEnclosesUptoSaid : Prop := tickEnclosesUptoRow.holds Try.pinned (OpenSpec.upto tickEnclosesSpec)

/-- 'hanselaw01.TickParts', WHERE WHAT IT READS IS OF BULK AT MOST 1048576: true; the input reads as it did. -/
def tickPartsUptoRow : OpenClaim := { program := "ytmenifpibbjicaa", sum := "6a936a8ab03956d17006d54bb4ea04674bf73a44b3a584115f20354bc79ed1ea", func := "hanse/hanselaw01.TickParts", spec := "tickParts", apart := false, narrowed := true }
def TickPartsUptoSaid : Prop := tickPartsUptoRow.holds Try.pinned (OpenSpec.upto tickPartsSpec)

/-- 'hanselaw01.TickOrder', WHERE WHAT IT READS IS OF BULK AT MOST 1048576: true; the input reads as it did. -/
def tickOrderUptoRow : OpenClaim := { program := "ytmenifpibbjicaa", sum := "6a936a8ab03956d17006d54bb4ea04674bf73a44b3a584115f20354bc79ed1ea", func := "hanse/hanselaw01.TickOrder", spec := "tickOrder", apart := false, narrowed := true }
def TickOrderUptoSaid : Prop := tickOrderUptoRow.holds Try.pinned (OpenSpec.upto tickOrderSpec)

/-- 'hanselaw14.LeaseGuards', WHERE WHAT IT READS IS OF BULK AT MOST 1048576: true; the input reads as it did. -/
def leaseGuardsUptoRow : OpenClaim := { program := "ytmenifpibbjicaa", sum := "6a936a8ab03956d17006d54bb4ea04674bf73a44b3a584115f20354bc79ed1ea", func := "hanse/hanselaw14.LeaseGuards", spec := "leaseGuards", apart := false, narrowed := true }
def LeaseGuardsUptoSaid : Prop := leaseGuardsUptoRow.holds Try.pinned (OpenSpec.upto leaseGuardsSpec)

/-- 'hanselaw14.LeaseGrows', WHERE WHAT IT READS IS OF BULK AT MOST 1048576: true; the input reads as it did. -/
def leaseGrowsUptoRow : OpenClaim := { program := "ytmenifpibbjicaa", sum := "6a936a8ab03956d17006d54bb4ea04674bf73a44b3a584115f20354bc79ed1ea", func := "hanse/hanselaw14.LeaseGrows", spec := "leaseGrows", apart := false, narrowed := true }
def LeaseGrowsUptoSaid : Prop := leaseGrowsUptoRow.holds Try.pinned (OpenSpec.upto leaseGrowsSpec)

/-- 'hanselaw01.TickExact', WHERE WHAT IT READS IS OF BULK AT MOST 1048576: true; the input reads as it did. -/
def tickExactUptoRow : OpenClaim := { program := "ytmenifpibbjicaa", sum := "6a936a8ab03956d17006d54bb4ea04674bf73a44b3a584115f20354bc79ed1ea", func := "hanse/hanselaw01.TickExact", spec := "tickExact", apart := false, narrowed := true }
def TickExactUptoSaid : Prop := tickExactUptoRow.holds Try.pinned (OpenSpec.upto tickExactSpec)

/-- 'hanselaw14.LeaseSafe', WHERE WHAT IT READS IS OF BULK AT MOST 1048576: true; the input reads as it did. -/
def leaseSafeUptoRow : OpenClaim := { program := "ytmenifpibbjicaa", sum := "6a936a8ab03956d17006d54bb4ea04674bf73a44b3a584115f20354bc79ed1ea", func := "hanse/hanselaw14.LeaseSafe", spec := "leaseSafe", apart := false, narrowed := true }
def LeaseSafeUptoSaid : Prop := leaseSafeUptoRow.holds Try.pinned (OpenSpec.upto leaseSafeSpec)

/-- 'hanselaw14.LeaseEnds', WHERE WHAT IT READS IS OF BULK AT MOST 1048576: true; the input reads as it did. -/
def leaseEndsUptoRow : OpenClaim := { program := "ytmenifpibbjicaa", sum := "6a936a8ab03956d17006d54bb4ea04674bf73a44b3a584115f20354bc79ed1ea", func := "hanse/hanselaw14.LeaseEnds", spec := "leaseEnds", apart := false, narrowed := true }
def LeaseEndsUptoSaid : Prop := leaseEndsUptoRow.holds Try.pinned (OpenSpec.upto leaseEndsSpec)

end Rows
end Go.Proofs.Ytmenifpibbjicaa
