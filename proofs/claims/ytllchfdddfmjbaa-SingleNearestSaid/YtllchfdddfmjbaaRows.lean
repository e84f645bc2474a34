/-
  No cell of these rows narrows 'for every input' (looked for: loops, veiled, ifaces, maps, wideKeys, modest, calm, conditions, laid).
  DERIVED. THE GIVEN ROWS OF THIS SEAT. 9 by the template 'for every input the law returns true; each argument reads behind the call as it read before'; 0 by the template 'total and deterministic' (their statements: YtllchfdddfmjbaaTotals.lean).
  GIVEN WITH THE SEED: the statements are not yours to turn. If you find one false, say at which input.
  Laid BY PROGRAM, IN A SANDBOX (cutbox-rows.mjs): the forced cells as the released guide's own fill.sh prints them over the translation 9cd57a31b820d154… (all of the seat's roots in one cut). By AI agents, Wed Nov 11 2026. No macro, syntax, notation, axiom, sorry.
-/
import Derived.Test.YtllchfdddfmjbaaChecked
import GoSem.Claim
import GoSem.ClaimJoined
import GoSem.ClaimMapViews
import Derived.JoinedTies
import Derived.KernelRfl
namespace Go.Proofs.Ytllchfdddfmjbaa
/- THE CELL 'sum', in the pinned program and in every row, IS THE sha256 OF THE DUMP (.gsa) THAT YtllchfdddfmjbaaProg.lean LOADS. Nothing in Lean hashes anything: it is a label: what it is worth is what the hold of that sum in a sandbox is worth. -/
noncomputable def Try.pinned : Pinned := { name := "ytllchfdddfmjbaa", sum := "9cd57a31b820d1549b69901c1af8866a2cf047f111cddf73ab573b8795cbd525", checked := Try.checked }
namespace Rows
def none {H : Type} : Left H := { results := [], args := [] }

/-- 'playpenlaw03.SingleWhole': WHATEVER THE INPUT: true; the input reads as it did. -/
def singleWholeSpec : ChangeSpec := { name := "singleWhole", fn := fun _ => fun
  | [d1, d2] => { results := [.lit (.bool true)], args := [d1, d2] }
  | _ => none }
def singleWholeRow : OpenClaim := { program := "ytllchfdddfmjbaa", sum := "9cd57a31b820d1549b69901c1af8866a2cf047f111cddf73ab573b8795cbd525", func := "playpen/playpenlaw03.SingleWhole", spec := "singleWhole", inPlace := ["math.Float32bits", "math.Float32frombits"], apart := false }
def SingleWholeSaid : Prop := singleWholeRow.holds Try.pinned (OpenSpec.ofChange singleWholeSpec)

/-- ITS FALSE NEIGHBOUR: 'it returns false'. Refute it at one input. -/
def singleWholeWrong : ChangeSpec := { name := "singleWhole", fn := fun _ => fun
  | [d1, d2] => { results := [.lit (.bool false)], args := [d1, d2] }
  | _ => none }
def SingleWholeWrongFalsely : Prop := singleWholeRow.holds Try.pinned (OpenSpec.ofChange singleWholeWrong)

/-- 'playpenlaw03.SingleNames': WHATEVER THE INPUT: true; the input reads as it did. -/
def singleNamesSpec : ChangeSpec := { name := "singleNames", fn := fun _ => fun
  | [] => { results := [.lit (.bool true)], args := [] }
  | _ => none }
def singleNamesRow : OpenClaim := { program := "ytllchfdddfmjbaa", sum := "9cd57a31b820d1549b69901c1af8866a2cf047f111cddf73ab573b8795cbd525", func := "playpen/playpenlaw03.SingleNames", spec := "singleNames", inPlace := ["math.Float32frombits", "math.Float32bits", "math.sqrt", "math.Float64bits", "math.Float64frombits"], apart := false }
def SingleNamesSaid : Prop := singleNamesRow.holds Try.pinned (OpenSpec.ofChange singleNamesSpec)

/-- ITS FALSE NEIGHBOUR: 'it returns false'. Refute it at one input. -/
def singleNamesWrong : ChangeSpec := { name := "singleNames", fn := fun _ => fun
  | [] => { results := [.lit (.bool false)], args := [] }
  | _ => none }
def SingleNamesWrongFalsely : Prop := singleNamesRow.holds Try.pinned (OpenSpec.ofChange singleNamesWrong)

/-- 'playpenlaw03.SingleNearest': WHATEVER THE INPUT: true; the input reads as it did. -/
def singleNearestSpec : ChangeSpec := { name := "singleNearest", fn := fun _ => fun
  | [d1, d2] => { results := [.lit (.bool true)], args := [d1, d2] }
  | _ => none }
def singleNearestRow : OpenClaim := { program := "ytllchfdddfmjbaa", sum := "9cd57a31b820d1549b69901c1af8866a2cf047f111cddf73ab573b8795cbd525", func := "playpen/playpenlaw03.SingleNearest", spec := "singleNearest", inPlace := ["math.Float32frombits", "math.Float32bits", "math.sqrt", "math.Float64bits"], apart := false }
def SingleNearestSaid : Prop := singleNearestRow.holds Try.pinned (OpenSpec.ofChange singleNearestSpec)

/-- ITS FALSE NEIGHBOUR: 'it returns false'. Refute it at one input. -/
def singleNearestWrong : ChangeSpec := { name := "singleNearest", fn := fun _ => fun
  | [d1, d2] => { results := [.lit (.bool false)], args := [d1, d2] }
  | _ => none }
def SingleNearestWrongFalsely : Prop := singleNearestRow.holds Try.pinned (OpenSpec.ofChange singleNearestWrong)

/-- 'playpenlaw03.SingleNearestSum': WHATEVER THE INPUT: true; the input reads as it did. -/
def singleNearestSumSpec : ChangeSpec := { name := "singleNearestSum", fn := fun _ => fun
  | [d1, d2] => { results := [.lit (.bool true)], args := [d1, d2] }
  | _ => none }
def singleNearestSumRow : OpenClaim := { program := "ytllchfdddfmjbaa", sum := "9cd57a31b820d1549b69901c1af8866a2cf047f111cddf73ab573b8795cbd525", func := "playpen/playpenlaw03.SingleNearestSum", spec := "singleNearestSum", inPlace := ["math.Float32frombits", "math.Float32bits", "math.sqrt", "math.Float64bits"], apart := false }
def SingleNearestSumSaid : Prop := singleNearestSumRow.holds Try.pinned (OpenSpec.ofChange singleNearestSumSpec)

/-- ITS FALSE NEIGHBOUR: 'it returns false'. Refute it at one input. -/
def singleNearestSumWrong : ChangeSpec := { name := "singleNearestSum", fn := fun _ => fun
  | [d1, d2] => { results := [.lit (.bool false)], args := [d1, d2] }
  | _ => none }
def SingleNearestSumWrongFalsely : Prop := singleNearestSumRow.holds Try.pinned (OpenSpec.ofChange singleNearestSumWrong)

/-- 'playpenlaw03.SingleKeeps': WHATEVER THE INPUT: true; the input reads as it did. -/
def singleKeepsSpec : ChangeSpec := { name := "singleKeeps", fn := fun _ => fun
  | [d1, d2, d3] => { results := [.lit (.bool true)], args := [d1, d2, d3] }
  | _ => none }
def singleKeepsRow : OpenClaim := { program := "ytllchfdddfmjbaa", sum := "9cd57a31b820d1549b69901c1af8866a2cf047f111cddf73ab573b8795cbd525", func := "playpen/playpenlaw03.SingleKeeps", spec := "singleKeeps", inPlace := ["math.Float32frombits", "math.Float32bits", "math.sqrt", "math.Float64bits", "math.Float64frombits"], apart := false }
def SingleKeepsSaid : Prop := singleKeepsRow.holds Try.pinned (OpenSpec.ofChange singleKeepsSpec)

/-- ITS FALSE NEIGHBOUR: 'it returns false'. Refute it at one input. -/
def singleKeepsWrong : ChangeSpec := { name := "singleKeeps", fn := fun _ => fun
  | [d1, d2, d3] => { results := [.lit (.bool false)], args := [d1, d2, d3] }
  | _ => none }
def SingleKeepsWrongFalsely : Prop := singleKeepsRow.holds Try.pinned (OpenSpec.ofChange singleKeepsWrong)

/-- 'playpenlaw03.SingleSigns': WHATEVER THE INPUT: true; the input reads as it did. -/
def singleSignsSpec : ChangeSpec := { name := "singleSigns", fn := fun _ => fun
  | [d1, d2] => { results := [.lit (.bool true)], args := [d1, d2] }
  | _ => none }
def singleSignsRow : OpenClaim := { program := "ytllchfdddfmjbaa", sum := "9cd57a31b820d1549b69901c1af8866a2cf047f111cddf73ab573b8795cbd525", func := "playpen/playpenlaw03.SingleSigns", spec := "singleSigns", inPlace := ["math.Float32frombits", "math.Float32bits", "math.sqrt", "math.Float64bits"], apart := false }
def SingleSignsSaid : Prop := singleSignsRow.holds Try.pinned (OpenSpec.ofChange singleSignsSpec)

/-- ITS FALSE NEIGHBOUR: 'it returns false'. Refute it at one input. -/
def singleSignsWrong : ChangeSpec := { name := "singleSigns", fn := fun _ => fun
  | [d1, d2] => { results := [.lit (.bool false)], args := [d1, d2] }
  | _ => none }
def SingleSignsWrongFalsely : Prop := singleSignsRow.holds Try.pinned (OpenSpec.ofChange singleSignsWrong)

/-- 'playpenlaw03.SingleNeighbours': WHATEVER THE INPUT: true; the input reads as it did. -/
def singleNeighboursSpec : ChangeSpec := { name := "singleNeighbours", fn := fun _ => fun
  | [d1, d2] => { results := [.lit (.bool true)], args := [d1, d2] }
  | _ => none }
def singleNeighboursRow : OpenClaim := { program := "ytllchfdddfmjbaa", sum := "9cd57a31b820d1549b69901c1af8866a2cf047f111cddf73ab573b8795cbd525", func := "playpen/playpenlaw03.SingleNeighbours", spec := "singleNeighbours", inPlace := ["math.Float32frombits", "math.Float32bits", "math.sqrt", "math.Float64bits"], apart := false }
def SingleNeighboursSaid : Prop := singleNeighboursRow.holds Try.pinned (OpenSpec.ofChange singleNeighboursSpec)

/-- ITS FALSE NEIGHBOUR: 'it returns false'. Refute it at one input. -/
def singleNeighboursWrong : ChangeSpec := { name := "singleNeighbours", fn := fun _ => fun
  | [d1, d2] => { results := [.lit (.bool false)], args := [d1, d2] }
  | _ => none }
def SingleNeighboursWrongFalsely : Prop := singleNeighboursRow.holds Try.pinned (OpenSpec.ofChange singleNeighboursWrong)

/-- 'playpenlaw03.SingleOne': WHATEVER THE INPUT: true; the input reads as it did. -/
def singleOneSpec : ChangeSpec := { name := "singleOne", fn := fun _ => fun
  | [d1, d2] => { results := [.lit (.bool true)], args := [d1, d2] }
  | _ => none }
def singleOneRow : OpenClaim := { program := "ytllchfdddfmjbaa", sum := "9cd57a31b820d1549b69901c1af8866a2cf047f111cddf73ab573b8795cbd525", func := "playpen/playpenlaw03.SingleOne", spec := "singleOne", inPlace := ["math.Float32frombits", "math.Float32bits", "math.sqrt", "math.Float64bits"], apart := false }
def SingleOneSaid : Prop := singleOneRow.holds Try.pinned (OpenSpec.ofChange singleOneSpec)

/-- ITS FALSE NEIGHBOUR: 'it returns false'. Refute it at one input. -/
def singleOneWrong : ChangeSpec := { name := "singleOne", fn := fun _ => fun
  | [d1, d2] => { results := [.lit (.bool false)], args := [d1, d2] }
  | _ => none }
def SingleOneWrongFalsely : Prop := singleOneRow.holds Try.pinned (OpenSpec.ofChange singleOneWrong)

/-- 'playpenlaw03.SingleBack': WHATEVER THE INPUT: true; the input reads as it did. -/
def singleBackSpec : ChangeSpec := { name := "singleBack", fn := fun _ => fun
  | [d1, d2] => { results := [.lit (.bool true)], args := [d1, d2] }
  | _ => none }
def singleBackRow : OpenClaim := { program := "ytllchfdddfmjbaa", sum := "9cd57a31b820d1549b69901c1af8866a2cf047f111cddf73ab573b8795cbd525", func := "playpen/playpenlaw03.SingleBack", spec := "singleBack", inPlace := ["math.Float32frombits", "math.Float64bits", "math.Float64frombits", "math.Float32bits", "math.sqrt"], apart := false }
def SingleBackSaid : Prop := singleBackRow.holds Try.pinned (OpenSpec.ofChange singleBackSpec)

/-- ITS FALSE NEIGHBOUR: 'it returns false'. Refute it at one input. -/
def singleBackWrong : ChangeSpec := { name := "singleBack", fn := fun _ => fun
  | [d1, d2] => { results := [.lit (.bool false)], args := [d1, d2] }
  | _ => none }
def SingleBackWrongFalsely : Prop := singleBackRow.holds Try.pinned (OpenSpec.ofChange singleBackWrong)

/- THE SECOND FORM. 'bulk': how many values and letters a reading holds, each counted each time it is reached (what is shared counts as often as it is met; a slice's spare places count too). A statement '..UptoSaid' is the law's where the arguments, and the package variables that the reading takes, are together of bulk at most 1048576: NARROWER than '..Said'. Prove '..Said' where nothing that the law and all that it calls make is longer than what came in: it says more and counts as full. Else prove '..UptoSaid'. A law counts once. -/
mutual
def uptoBulk {H : Type} : DataW H → Nat
  | .lit (.string bytes) => bytes.length + 1
  | .lit _ => 1
  | .nil => 1
  | .ptr d => uptoBulk d + 1
  | .slice elems spare => uptoBulkAll elems + uptoBulkAll spare + 1
  | .agg parts => uptoBulkAll parts + 1
  | .iface _ d => uptoBulk d + 1
  | .map entries => uptoBulkEntries entries + 1
  | .held _ => 1
def uptoBulkAll {H : Type} : List (DataW H) → Nat
  | [] => 0
  | d :: r => uptoBulk d + uptoBulkAll r
def uptoBulkEntries {H : Type} : List (Lit × DataW H) → Nat
  | [] => 0
  | x :: r => uptoBulkEntry x + uptoBulkEntries r
def uptoBulkEntry {H : Type} : Lit × DataW H → Nat
  | (.string bytes, d) => bytes.length + uptoBulk d + 1
  | (_, d) => uptoBulk d + 1
 end
def uptoSmall : (H : Type) → List (DataW H) → Bool := fun _ ds => decide (uptoBulkAll ds ≤ 1048576)
def OpenSpec.upto (s : _root_.Go.ChangeSpec) : _root_.Go.OpenSpec := { _root_.Go.OpenSpec.ofChange s with cond := some uptoSmall }

/-- 'playpenlaw03.SingleWhole', WHERE WHAT IT READS IS OF BULK AT MOST 1048576: true; the input reads as it did. -/
def singleWholeUptoRow : OpenClaim := { program := "ytllchfdddfmjbaa", sum := "9cd57a31b820d1549b69901c1af8866a2cf047f111cddf73ab573b8795cbd525", func := "playpen/playpenlaw03.SingleWhole", spec := "singleWhole", inPlace := ["math.Float32bits", "math.Float32frombits"], apart := false, narrowed := true }
def SingleWholeUptoSaid : Prop := singleWholeUptoRow.holds Try.pinned (OpenSpec.upto singleWholeSpec)

/-- 'playpenlaw03.SingleNames', WHERE WHAT IT READS IS OF BULK AT MOST 1048576: true; the input reads as it did. -/
def singleNamesUptoRow : OpenClaim := { program := "ytllchfdddfmjbaa", sum := "9cd57a31b820d1549b69901c1af8866a2cf047f111cddf73ab573b8795cbd525", func := "playpen/playpenlaw03.SingleNames", spec := "singleNames", inPlace := ["math.Float32frombits", "math.Float32bits", "math.sqrt", "math.Float64bits", "math.Float64frombits"], apart := false, narrowed := true }
def SingleNamesUptoSaid : Prop := singleNamesUptoRow.holds Try.pinned (OpenSpec.upto singleNamesSpec)

/-- 'playpenlaw03.SingleNearest', WHERE WHAT IT READS IS OF BULK AT MOST 1048576: true; the input reads as it did. -/
def singleNearestUptoRow : OpenClaim := { program := "ytllchfdddfmjbaa", sum := "9cd57a31b820d1549b69901c1af8866a2cf047f111cddf73ab573b8795cbd525", func := "playpen/playpenlaw03.SingleNearest", spec := "singleNearest", inPlace := ["math.Float32frombits", "math.Float32bits", "math.sqrt", "math.Float64bits"], apart := false, narrowed := true }
def SingleNearestUptoSaid : Prop := singleNearestUptoRow.holds Try.pinned (OpenSpec.upto singleNearestSpec)

/-- 'playpenlaw03.SingleNearestSum', WHERE WHAT IT READS IS OF BULK AT MOST 1048576: true; the input reads as it did. -/
def singleNearestSumUptoRow : OpenClaim := { program := "ytllchfdddfmjbaa", sum := "9cd57a31b820d1549b69901c1af8866a2cf047f111cddf73ab573b8795cbd525", func := "playpen/playpenlaw03.SingleNearestSum", spec := "singleNearestSum", inPlace := ["math.Float32frombits", "math.Float32bits", "math.sqrt", "math.Float64bits"], apart := false, narrowed := true }
def SingleNearestSumUptoSaid : Prop := singleNearestSumUptoRow.holds Try.pinned (OpenSpec.upto singleNearestSumSpec)

/-- 'playpenlaw03.SingleKeeps', WHERE WHAT IT READS IS OF BULK AT MOST 1048576: true; the input reads as it did. -/
def singleKeepsUptoRow : OpenClaim := { program := "ytllchfdddfmjbaa", sum := "9cd57a31b820d1549b69901c1af8866a2cf047f111cddf73ab573b8795cbd525", func := "playpen/playpenlaw03.SingleKeeps", spec := "singleKeeps", inPlace := ["math.Float32frombits", "math.Float32bits", "math.sqrt", "math.Float64bits", "math.Float64frombits"], apart := false, narrowed := true }
def SingleKeepsUptoSaid : Prop := singleKeepsUptoRow.holds Try.pinned (OpenSpec.upto singleKeepsSpec)

/-- 'playpenlaw03.SingleSigns', WHERE WHAT IT READS IS OF BULK AT MOST 1048576: true; the input reads as it did. -/
def singleSignsUptoRow : OpenClaim := { program := "ytllchfdddfmjbaa", sum := "9cd57a31b820d1549b69901c1af8866a2cf047f111cddf73ab573b8795cbd525", func := "playpen/playpenlaw03.SingleSigns", spec := "singleSigns", inPlace := ["math.Float32frombits", "math.Float32bits", "math.sqrt", "math.Float64bits"], apart := false, narrowed := true }
def SingleSignsUptoSaid : Prop := singleSignsUptoRow.holds Try.pinned (OpenSpec.upto singleSignsSpec)

/-- 'playpenlaw03.SingleNeighbours', WHERE WHAT IT READS IS OF BULK AT MOST 1048576: true; the input reads as it did. -/
def singleNeighboursUptoRow : OpenClaim := { program := "ytllchfdddfmjbaa", sum := "9cd57a31b820d1549b69901c1af8866a2cf047f111cddf73ab573b8795cbd525", func := "playpen/playpenlaw03.SingleNeighbours", spec := "singleNeighbours", inPlace := ["math.Float32frombits", "math.Float32bits", "math.sqrt", "math.Float64bits"], apart := false, narrowed := true }
def SingleNeighboursUptoSaid : Prop := singleNeighboursUptoRow.holds Try.pinned (OpenSpec.upto singleNeighboursSpec)

/-- 'playpenlaw03.SingleOne', WHERE WHAT IT READS IS OF BULK AT MOST 1048576: true; the input reads as it did. -/
def singleOneUptoRow : OpenClaim := { program := "ytllchfdddfmjbaa", sum := "9cd57a31b820d1549b69901c1af8866a2cf047f111cddf73ab573b8795cbd525", func := "playpen/playpenlaw03.SingleOne", spec := "singleOne", inPlace := ["math.Float32frombits", "math.Float32bits", "math.sqrt", "math.Float64bits"], apart := false, narrowed := true }
def SingleOneUptoSaid : Prop := singleOneUptoRow.holds Try.pinned (OpenSpec.upto singleOneSpec)

/-- 'playpenlaw03.SingleBack', WHERE WHAT IT READS IS OF BULK AT MOST 1048576: true; the input reads as it did. -/
def singleBackUptoRow : OpenClaim := { program := "ytllchfdddfmjbaa", sum := "9cd57a31b820d1549b69901c1af8866a2cf047f111cddf73ab573b8795cbd525", func := "playpen/playpenlaw03.SingleBack", spec := "singleBack", inPlace := ["math.Float32frombits", "math.Float64bits", "math.Float64frombits", "math.Float32bits", "math.sqrt"], apart := false, narrowed := true }
def SingleBackUptoSaid : Prop := singleBackUptoRow.holds Try.pinned (OpenSpec.upto singleBackSpec)

end Rows
end Go.Proofs.Ytllchfdddfmjbaa
