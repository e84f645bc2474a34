/-
  No cell of these rows narrows 'for every input' (looked for: loops, veiled, ifaces, maps, wideKeys, modest, calm, conditions, laid).
  DERIVED. THE GIVEN ROWS OF THIS SEAT. 12 by the template 'for every input the law returns true; each argument reads behind the call as it read before'; 0 by the template 'total and deterministic' (their statements: YtfgbjaejkfkmmaaTotals.lean).
  GIVEN WITH THE SEED: the statements are not yours to turn. If you find one false, say at which input.
  Laid BY PROGRAM, IN A SANDBOX (cutbox-rows.mjs): the forced cells as the released guide's own fill.sh prints them over the translation e3982cbf1cc3ef14… (all of the seat's roots in one cut). By AI agents, Wed Nov 11 2026. No macro, syntax, notation, axiom, sorry.
-/
import Derived.Test.YtfgbjaejkfkmmaaChecked
import GoSem.Claim
import GoSem.ClaimJoined
import GoSem.ClaimMapViews
import Derived.JoinedTies
import Derived.KernelRfl
namespace Go.Proofs.Ytfgbjaejkfkmmaa
/- THE CELL 'sum', in the pinned program and in every row, IS THE sha256 OF THE DUMP (.gsa) THAT YtfgbjaejkfkmmaaProg.lean LOADS. Nothing in Lean hashes anything: it is a label: what it is worth is what the hold of that sum in a sandbox is worth. -/
noncomputable def Try.pinned : Pinned := { name := "ytfgbjaejkfkmmaa", sum := "e3982cbf1cc3ef14392bacf159dd1339b73811d0d8b5c9fc290b6b8a61a7bd58", checked := Try.checked }
namespace Rows
def none {H : Type} : Left H := { results := [], args := [] }

/-- 'playpenlaw06.AluOrder': WHATEVER THE INPUT: true; the input reads as it did. -/
def aluOrderSpec : ChangeSpec := { name := "aluOrder", fn := fun _ => fun
  | [d1, d2, d3] => { results := [.lit (.bool true)], args := [d1, d2, d3] }
  | _ => none }
def aluOrderRow : OpenClaim := { program := "ytfgbjaejkfkmmaa", sum := "e3982cbf1cc3ef14392bacf159dd1339b73811d0d8b5c9fc290b6b8a61a7bd58", func := "playpen/playpenlaw06.AluOrder", spec := "aluOrder", inPlace := ["math.Float32frombits", "math.Float32bits"], unfollowed := true, recurses := true, apart := false }
def AluOrderSaid : Prop := aluOrderRow.holds Try.pinned (OpenSpec.ofChange aluOrderSpec)

/-- ITS FALSE NEIGHBOUR: 'it returns false'. Refute it at one input. -/
def aluOrderWrong : ChangeSpec := { name := "aluOrder", fn := fun _ => fun
  | [d1, d2, d3] => { results := [.lit (.bool false)], args := [d1, d2, d3] }
  | _ => none }
def AluOrderWrongFalsely : Prop := aluOrderRow.holds Try.pinned (OpenSpec.ofChange aluOrderWrong)

/-- 'playpenlaw06.AluUnary': WHATEVER THE INPUT: true; the input reads as it did. -/
def aluUnarySpec : ChangeSpec := { name := "aluUnary", fn := fun _ => fun
  | [d1, d2] => { results := [.lit (.bool true)], args := [d1, d2] }
  | _ => none }
def aluUnaryRow : OpenClaim := { program := "ytfgbjaejkfkmmaa", sum := "e3982cbf1cc3ef14392bacf159dd1339b73811d0d8b5c9fc290b6b8a61a7bd58", func := "playpen/playpenlaw06.AluUnary", spec := "aluUnary", inPlace := ["math.Float32bits", "math.Float32frombits"], apart := false }
def AluUnarySaid : Prop := aluUnaryRow.holds Try.pinned (OpenSpec.ofChange aluUnarySpec)

/-- ITS FALSE NEIGHBOUR: 'it returns false'. Refute it at one input. -/
def aluUnaryWrong : ChangeSpec := { name := "aluUnary", fn := fun _ => fun
  | [d1, d2] => { results := [.lit (.bool false)], args := [d1, d2] }
  | _ => none }
def AluUnaryWrongFalsely : Prop := aluUnaryRow.holds Try.pinned (OpenSpec.ofChange aluUnaryWrong)

/-- 'playpenlaw06.AluHolds': WHATEVER THE INPUT: true; the input reads as it did. -/
def aluHoldsSpec : ChangeSpec := { name := "aluHolds", fn := fun _ => fun
  | [d1, d2, d3] => { results := [.lit (.bool true)], args := [d1, d2, d3] }
  | _ => none }
def aluHoldsRow : OpenClaim := { program := "ytfgbjaejkfkmmaa", sum := "e3982cbf1cc3ef14392bacf159dd1339b73811d0d8b5c9fc290b6b8a61a7bd58", func := "playpen/playpenlaw06.AluHolds", spec := "aluHolds", inPlace := ["math.Float32frombits"], apart := false }
def AluHoldsSaid : Prop := aluHoldsRow.holds Try.pinned (OpenSpec.ofChange aluHoldsSpec)

/-- ITS FALSE NEIGHBOUR: 'it returns false'. Refute it at one input. -/
def aluHoldsWrong : ChangeSpec := { name := "aluHolds", fn := fun _ => fun
  | [d1, d2, d3] => { results := [.lit (.bool false)], args := [d1, d2, d3] }
  | _ => none }
def AluHoldsWrongFalsely : Prop := aluHoldsRow.holds Try.pinned (OpenSpec.ofChange aluHoldsWrong)

/-- 'playpenlaw06.AluBinary': WHATEVER THE INPUT: true; the input reads as it did. -/
def aluBinarySpec : ChangeSpec := { name := "aluBinary", fn := fun _ => fun
  | [d1, d2, d3] => { results := [.lit (.bool true)], args := [d1, d2, d3] }
  | _ => none }
def aluBinaryRow : OpenClaim := { program := "ytfgbjaejkfkmmaa", sum := "e3982cbf1cc3ef14392bacf159dd1339b73811d0d8b5c9fc290b6b8a61a7bd58", func := "playpen/playpenlaw06.AluBinary", spec := "aluBinary", inPlace := ["math.Float32frombits", "math.Float32bits"], unfollowed := true, recurses := true, apart := false }
def AluBinarySaid : Prop := aluBinaryRow.holds Try.pinned (OpenSpec.ofChange aluBinarySpec)

/-- ITS FALSE NEIGHBOUR: 'it returns false'. Refute it at one input. -/
def aluBinaryWrong : ChangeSpec := { name := "aluBinary", fn := fun _ => fun
  | [d1, d2, d3] => { results := [.lit (.bool false)], args := [d1, d2, d3] }
  | _ => none }
def AluBinaryWrongFalsely : Prop := aluBinaryRow.holds Try.pinned (OpenSpec.ofChange aluBinaryWrong)

/-- 'playpenlaw06.AluTurns': WHATEVER THE INPUT: true; the input reads as it did. -/
def aluTurnsSpec : ChangeSpec := { name := "aluTurns", fn := fun _ => fun
  | [d] => { results := [.lit (.bool true)], args := [d] }
  | _ => none }
def aluTurnsRow : OpenClaim := { program := "ytfgbjaejkfkmmaa", sum := "e3982cbf1cc3ef14392bacf159dd1339b73811d0d8b5c9fc290b6b8a61a7bd58", func := "playpen/playpenlaw06.AluTurns", spec := "aluTurns", apart := false }
def AluTurnsSaid : Prop := aluTurnsRow.holds Try.pinned (OpenSpec.ofChange aluTurnsSpec)

/-- ITS FALSE NEIGHBOUR: 'it returns false'. Refute it at one input. -/
def aluTurnsWrong : ChangeSpec := { name := "aluTurns", fn := fun _ => fun
  | [d] => { results := [.lit (.bool false)], args := [d] }
  | _ => none }
def AluTurnsWrongFalsely : Prop := aluTurnsRow.holds Try.pinned (OpenSpec.ofChange aluTurnsWrong)

/-- 'playpenlaw06.AluDivides': WHATEVER THE INPUT: true; the input reads as it did. -/
def aluDividesSpec : ChangeSpec := { name := "aluDivides", fn := fun _ => fun
  | [d1, d2] => { results := [.lit (.bool true)], args := [d1, d2] }
  | _ => none }
def aluDividesRow : OpenClaim := { program := "ytfgbjaejkfkmmaa", sum := "e3982cbf1cc3ef14392bacf159dd1339b73811d0d8b5c9fc290b6b8a61a7bd58", func := "playpen/playpenlaw06.AluDivides", spec := "aluDivides", inPlace := ["math.Float32frombits", "math.Float32bits"], unfollowed := true, recurses := true, apart := false }
def AluDividesSaid : Prop := aluDividesRow.holds Try.pinned (OpenSpec.ofChange aluDividesSpec)

/-- ITS FALSE NEIGHBOUR: 'it returns false'. Refute it at one input. -/
def aluDividesWrong : ChangeSpec := { name := "aluDivides", fn := fun _ => fun
  | [d1, d2] => { results := [.lit (.bool false)], args := [d1, d2] }
  | _ => none }
def AluDividesWrongFalsely : Prop := aluDividesRow.holds Try.pinned (OpenSpec.ofChange aluDividesWrong)

/-- 'playpenlaw06.AluShifts': WHATEVER THE INPUT: true; the input reads as it did. -/
def aluShiftsSpec : ChangeSpec := { name := "aluShifts", fn := fun _ => fun
  | [d1, d2] => { results := [.lit (.bool true)], args := [d1, d2] }
  | _ => none }
def aluShiftsRow : OpenClaim := { program := "ytfgbjaejkfkmmaa", sum := "e3982cbf1cc3ef14392bacf159dd1339b73811d0d8b5c9fc290b6b8a61a7bd58", func := "playpen/playpenlaw06.AluShifts", spec := "aluShifts", inPlace := ["math.Float32frombits", "math.Float32bits"], unfollowed := true, recurses := true, apart := false }
def AluShiftsSaid : Prop := aluShiftsRow.holds Try.pinned (OpenSpec.ofChange aluShiftsSpec)

/-- ITS FALSE NEIGHBOUR: 'it returns false'. Refute it at one input. -/
def aluShiftsWrong : ChangeSpec := { name := "aluShifts", fn := fun _ => fun
  | [d1, d2] => { results := [.lit (.bool false)], args := [d1, d2] }
  | _ => none }
def AluShiftsWrongFalsely : Prop := aluShiftsRow.holds Try.pinned (OpenSpec.ofChange aluShiftsWrong)

/-- 'playpenlaw06.AluRing': WHATEVER THE INPUT: true; the input reads as it did. -/
def aluRingSpec : ChangeSpec := { name := "aluRing", fn := fun _ => fun
  | [d1, d2, d3] => { results := [.lit (.bool true)], args := [d1, d2, d3] }
  | _ => none }
def aluRingRow : OpenClaim := { program := "ytfgbjaejkfkmmaa", sum := "e3982cbf1cc3ef14392bacf159dd1339b73811d0d8b5c9fc290b6b8a61a7bd58", func := "playpen/playpenlaw06.AluRing", spec := "aluRing", inPlace := ["math.Float32frombits", "math.Float32bits"], unfollowed := true, recurses := true, apart := false }
def AluRingSaid : Prop := aluRingRow.holds Try.pinned (OpenSpec.ofChange aluRingSpec)

/-- ITS FALSE NEIGHBOUR: 'it returns false'. Refute it at one input. -/
def aluRingWrong : ChangeSpec := { name := "aluRing", fn := fun _ => fun
  | [d1, d2, d3] => { results := [.lit (.bool false)], args := [d1, d2, d3] }
  | _ => none }
def AluRingWrongFalsely : Prop := aluRingRow.holds Try.pinned (OpenSpec.ofChange aluRingWrong)

/-- 'playpenlaw06.AluNarrow': WHATEVER THE INPUT: true; the input reads as it did. -/
def aluNarrowSpec : ChangeSpec := { name := "aluNarrow", fn := fun _ => fun
  | [d] => { results := [.lit (.bool true)], args := [d] }
  | _ => none }
def aluNarrowRow : OpenClaim := { program := "ytfgbjaejkfkmmaa", sum := "e3982cbf1cc3ef14392bacf159dd1339b73811d0d8b5c9fc290b6b8a61a7bd58", func := "playpen/playpenlaw06.AluNarrow", spec := "aluNarrow", inPlace := ["math.Float32bits", "math.Float32frombits"], unfollowed := true, recurses := true, apart := false }
def AluNarrowSaid : Prop := aluNarrowRow.holds Try.pinned (OpenSpec.ofChange aluNarrowSpec)

/-- ITS FALSE NEIGHBOUR: 'it returns false'. Refute it at one input. -/
def aluNarrowWrong : ChangeSpec := { name := "aluNarrow", fn := fun _ => fun
  | [d] => { results := [.lit (.bool false)], args := [d] }
  | _ => none }
def AluNarrowWrongFalsely : Prop := aluNarrowRow.holds Try.pinned (OpenSpec.ofChange aluNarrowWrong)

/-- 'playpenlaw06.AluThree': WHATEVER THE INPUT: true; the input reads as it did. -/
def aluThreeSpec : ChangeSpec := { name := "aluThree", fn := fun _ => fun
  | [d1, d2] => { results := [.lit (.bool true)], args := [d1, d2] }
  | _ => none }
def aluThreeRow : OpenClaim := { program := "ytfgbjaejkfkmmaa", sum := "e3982cbf1cc3ef14392bacf159dd1339b73811d0d8b5c9fc290b6b8a61a7bd58", func := "playpen/playpenlaw06.AluThree", spec := "aluThree", inPlace := ["math.Float32frombits", "math.Float32bits"], unfollowed := true, recurses := true, apart := false }
def AluThreeSaid : Prop := aluThreeRow.holds Try.pinned (OpenSpec.ofChange aluThreeSpec)

/-- ITS FALSE NEIGHBOUR: 'it returns false'. Refute it at one input. -/
def aluThreeWrong : ChangeSpec := { name := "aluThree", fn := fun _ => fun
  | [d1, d2] => { results := [.lit (.bool false)], args := [d1, d2] }
  | _ => none }
def AluThreeWrongFalsely : Prop := aluThreeRow.holds Try.pinned (OpenSpec.ofChange aluThreeWrong)

/-- 'playpenlaw06.AluNames': WHATEVER THE INPUT: true; the input reads as it did. -/
def aluNamesSpec : ChangeSpec := { name := "aluNames", fn := fun _ => fun
  | [] => { results := [.lit (.bool true)], args := [] }
  | _ => none }
def aluNamesRow : OpenClaim := { program := "ytfgbjaejkfkmmaa", sum := "e3982cbf1cc3ef14392bacf159dd1339b73811d0d8b5c9fc290b6b8a61a7bd58", func := "playpen/playpenlaw06.AluNames", spec := "aluNames", inPlace := ["math.Float32frombits", "math.Float32bits"], unfollowed := true, recurses := true, apart := false }
def AluNamesSaid : Prop := aluNamesRow.holds Try.pinned (OpenSpec.ofChange aluNamesSpec)

/-- ITS FALSE NEIGHBOUR: 'it returns false'. Refute it at one input. -/
def aluNamesWrong : ChangeSpec := { name := "aluNames", fn := fun _ => fun
  | [] => { results := [.lit (.bool false)], args := [] }
  | _ => none }
def AluNamesWrongFalsely : Prop := aluNamesRow.holds Try.pinned (OpenSpec.ofChange aluNamesWrong)

/-- 'playpenlaw06.AluTable': WHATEVER THE INPUT: true; the input reads as it did. -/
def aluTableSpec : ChangeSpec := { name := "aluTable", fn := fun _ => fun
  | [d1, d2, d3] => { results := [.lit (.bool true)], args := [d1, d2, d3] }
  | _ => none }
def aluTableRow : OpenClaim := { program := "ytfgbjaejkfkmmaa", sum := "e3982cbf1cc3ef14392bacf159dd1339b73811d0d8b5c9fc290b6b8a61a7bd58", func := "playpen/playpenlaw06.AluTable", spec := "aluTable", inPlace := ["math.Float32bits", "math.Float32frombits"], unfollowed := true, recurses := true, apart := false }
def AluTableSaid : Prop := aluTableRow.holds Try.pinned (OpenSpec.ofChange aluTableSpec)

/-- ITS FALSE NEIGHBOUR: 'it returns false'. Refute it at one input. -/
def aluTableWrong : ChangeSpec := { name := "aluTable", fn := fun _ => fun
  | [d1, d2, d3] => { results := [.lit (.bool false)], args := [d1, d2, d3] }
  | _ => none }
def AluTableWrongFalsely : Prop := aluTableRow.holds Try.pinned (OpenSpec.ofChange aluTableWrong)

/- THE SECOND FORM. 'bulk': how many values and letters a reading holds, each counted each time it is reached (what is shared counts as often as it is met; a slice's spare places count too). A statement '..UptoSaid' is the law's where the arguments, and the package variables that the reading takes, are together of bulk at most 1048576: NARROWER than '..Said'. Prove '..Said' where nothing that the law and all that it calls make is longer than what came in: it says more and counts as full. Else prove '..UptoSaid'. A law counts once. -/
mutual
def uptoBulk {H : Type} : DataW H → Nat
  | .lit (.string bytes) => bytes.length + 1
  | .lit _ => 1
  | .nil => 1
  | .ptr d => uptoBulk d + 1
  | .slice elems spare => uptoBulkAll elems + uptoBulkAll spare + 1
  | .agg parts => uptoBulkAll parts + 1
  | .iface _ d => uptoBulk d + 1
  | .map entries => uptoBulkEntries entries + 1
  | .held _ => 1
def uptoBulkAll {H : Type} : List (DataW H) → Nat
  | [] => 0
  | d :: r => uptoBulk d + uptoBulkAll r
def uptoBulkEntries {H : Type} : List (Lit × DataW H) → Nat
  | [] => 0
  | x :: r => uptoBulkEntry x + uptoBulkEntries r
def uptoBulkEntry {H : Type} : Lit × DataW H → Nat
  | (.string bytes, d) => bytes.length + uptoBulk d + 1
  | (_, d) => uptoBulk d + 1
 end
def uptoSmall : (H : Type) → List (DataW H) → Bool := fun _ ds => decide (uptoBulkAll ds ≤ 1048576)
def OpenSpec.upto (s : _root_.Go.ChangeSpec) : _root_.Go.OpenSpec := { _root_.Go.OpenSpec.ofChange s with cond := some uptoSmall }

/-- 'playpenlaw06.AluOrder', WHERE WHAT IT READS IS OF BULK AT MOST 1048576: true; the input reads as it did. -/
def aluOrderUptoRow : OpenClaim := { program := "ytfgbjaejkfkmmaa", sum := "e3982cbf1cc3ef14392bacf159dd1339b73811d0d8b5c9fc290b6b8a61a7bd58", func := "playpen/playpenlaw06.AluOrder", spec := "aluOrder", inPlace := ["math.Float32frombits", "math.Float32bits"], unfollowed := true, recurses := true, apart := false, narrowed := true }
def AluOrderUptoSaid : Prop := aluOrderUptoRow.holds Try.pinned (OpenSpec.upto aluOrderSpec)

/-- 'playpenlaw06.AluUnary', WHERE WHAT IT READS IS OF BULK AT MOST 1048576: true; the input reads as it did. -/
def aluUnaryUptoRow : OpenClaim := { program := "ytfgbjaejkfkmmaa", sum := "e3982cbf1cc3ef14392bacf159dd1339b73811d0d8b5c9fc290b6b8a61a7bd58", func := "playpen/playpenlaw06.AluUnary", spec := "aluUnary", inPlace := ["math.Float32bits", "math.Float32frombits"], apart := false, narrowed := true }
def AluUnaryUptoSaid : Prop := aluUnaryUptoRow.holds Try.pinned (OpenSpec.upto aluUnarySpec)

/-- 'playpenlaw06.AluHolds', WHERE WHAT IT READS IS OF BULK AT MOST 1048576: true; the input reads as it did. -/
def aluHoldsUptoRow : OpenClaim := { program := "ytfgbjaejkfkmmaa", sum := "e3982cbf1cc3ef14392bacf159dd1339b73811d0d8b5c9fc290b6b8a61a7bd58", func := "playpen/playpenlaw06.AluHolds", spec := "aluHolds", inPlace := ["math.Float32frombits"], apart := false, narrowed := true }
def AluHoldsUptoSaid : Prop := aluHoldsUptoRow.holds Try.pinned (OpenSpec.upto aluHoldsSpec)

/-- 'playpenlaw06.AluBinary', WHERE WHAT IT READS IS OF BULK AT MOST 1048576: true; the input reads as it did. -/
def aluBinaryUptoRow : OpenClaim := { program := "ytfgbjaejkfkmmaa", sum := "e3982cbf1cc3ef14392bacf159dd1339b73811d0d8b5c9fc290b6b8a61a7bd58", func := "playpen/playpenlaw06.AluBinary", spec := "aluBinary", inPlace := ["math.Float32frombits", "math.Float32bits"], unfollowed := true, recurses := true, apart := false, narrowed := true }
def AluBinaryUptoSaid : Prop := aluBinaryUptoRow.holds Try.pinned (OpenSpec.upto aluBinarySpec)

/-- 'playpenlaw06.AluTurns', WHERE WHAT IT READS IS OF BULK AT MOST 1048576: true; the input reads as it did. -/
def aluTurnsUptoRow : OpenClaim := { program := "ytfgbjaejkfkmmaa", sum := "e3982cbf1cc3ef14392bacf159dd1339b73811d0d8b5c9fc290b6b8a61a7bd58", func := "playpen/playpenlaw06.AluTurns", spec := "aluTurns", apart := false, narrowed := true }
def AluTurnsUptoSaid : Prop := aluTurnsUptoRow.holds Try.pinned (OpenSpec.upto aluTurnsSpec)

/-- 'playpenlaw06.AluDivides', WHERE WHAT IT READS IS OF BULK AT MOST 1048576: true; the input reads as it did. -/
def aluDividesUptoRow : OpenClaim := { program := "ytfgbjaejkfkmmaa", sum := "e3982cbf1cc3ef14392bacf159dd1339b73811d0d8b5c9fc290b6b8a61a7bd58", func := "playpen/playpenlaw06.AluDivides", spec := "aluDivides", inPlace := ["math.Float32frombits", "math.Float32bits"], unfollowed := true, recurses := true, apart := false, narrowed := true }
def AluDividesUptoSaid : Prop := aluDividesUptoRow.holds Try.pinned (OpenSpec.upto aluDividesSpec)

/-- 'playpenlaw06.AluShifts', WHERE WHAT IT READS IS OF BULK AT MOST 1048576: true; the input reads as it did. -/
def aluShiftsUptoRow : OpenClaim := { program := "ytfgbjaejkfkmmaa", sum := "e3982cbf1cc3ef14392bacf159dd1339b73811d0d8b5c9fc290b6b8a61a7bd58", func := "playpen/playpenlaw06.AluShifts", spec := "aluShifts", inPlace := ["math.Float32frombits", "math.Float32bits"], unfollowed := true, recurses := true, apart := false, narrowed := true }
def AluShiftsUptoSaid : Prop := aluShiftsUptoRow.holds Try.pinned (OpenSpec.upto aluShiftsSpec)

/-- 'playpenlaw06.AluRing', WHERE WHAT IT READS IS OF BULK AT MOST 1048576: true; the input reads as it did. -/
def aluRingUptoRow : OpenClaim := { program := "ytfgbjaejkfkmmaa", sum := "e3982cbf1cc3ef14392bacf159dd1339b73811d0d8b5c9fc290b6b8a61a7bd58", func := "playpen/playpenlaw06.AluRing", spec := "aluRing", inPlace := ["math.Float32frombits", "math.Float32bits"], unfollowed := true, recurses := true, apart := false, narrowed := true }
def AluRingUptoSaid : Prop := aluRingUptoRow.holds Try.pinned (OpenSpec.upto aluRingSpec)

/-- 'playpenlaw06.AluNarrow', WHERE WHAT IT READS IS OF BULK AT MOST 1048576: true; the input reads as it did. -/
def aluNarrowUptoRow : OpenClaim := { program := "ytfgbjaejkfkmmaa", sum := "e3982cbf1cc3ef14392bacf159dd1339b73811d0d8b5c9fc290b6b8a61a7bd58", func := "playpen/playpenlaw06.AluNarrow", spec := "aluNarrow", inPlace := ["math.Float32bits", "math.Float32frombits"], unfollowed := true, recurses := true, apart := false, narrowed := true }
def AluNarrowUptoSaid : Prop := aluNarrowUptoRow.holds Try.pinned (OpenSpec.upto aluNarrowSpec)

/-- 'playpenlaw06.AluThree', WHERE WHAT IT READS IS OF BULK AT MOST 1048576: true; the input reads as it did. -/
def aluThreeUptoRow : OpenClaim := { program := "ytfgbjaejkfkmmaa", sum := "e3982cbf1cc3ef14392bacf159dd1339b73811d0d8b5c9fc290b6b8a61a7bd58", func := "playpen/playpenlaw06.AluThree", spec := "aluThree", inPlace := ["math.Float32frombits", "math.Float32bits"], unfollowed := true, recurses := true, apart := false, narrowed := true }
def AluThreeUptoSaid : Prop := aluThreeUptoRow.holds Try.pinned (OpenSpec.upto aluThreeSpec)

/-- 'playpenlaw06.AluNames', WHERE WHAT IT READS IS OF BULK AT MOST 1048576: true; the input reads as it did. -/
def aluNamesUptoRow : OpenClaim := { program := "ytfgbjaejkfkmmaa", sum := "e3982cbf1cc3ef14392bacf159dd1339b73811d0d8b5c9fc290b6b8a61a7bd58", func := "playpen/playpenlaw06.AluNames", spec := "aluNames", inPlace := ["math.Float32frombits", "math.Float32bits"], unfollowed := true, recurses := true, apart := false, narrowed := true }
def AluNamesUptoSaid : Prop := aluNamesUptoRow.holds Try.pinned (OpenSpec.upto aluNamesSpec)

/-- 'playpenlaw06.AluTable', WHERE WHAT IT READS IS OF BULK AT MOST 1048576: true; the input reads as it did. -/
def aluTableUptoRow : OpenClaim := { program := "ytfgbjaejkfkmmaa", sum := "e3982cbf1cc3ef14392bacf159dd1339b73811d0d8b5c9fc290b6b8a61a7bd58", func := "playpen/playpenlaw06.AluTable", spec := "aluTable", inPlace := ["math.Float32bits", "math.Float32frombits"], unfollowed := true, recurses := true, apart := false, narrowed := true }
def AluTableUptoSaid : Prop := aluTableUptoRow.holds Try.pinned (OpenSpec.upto aluTableSpec)

end Rows
end Go.Proofs.Ytfgbjaejkfkmmaa
