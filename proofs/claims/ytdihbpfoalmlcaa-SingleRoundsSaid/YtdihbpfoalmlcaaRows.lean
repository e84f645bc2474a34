/-
  No cell of these rows narrows 'for every input' (looked for: loops, veiled, ifaces, maps, wideKeys, modest, calm, conditions, laid).
  DERIVED. THE GIVEN ROWS OF THIS SEAT. 9 by the template 'for every input the law returns true; each argument reads behind the call as it read before'; 0 by the template 'total and deterministic' (their statements: YtdihbpfoalmlcaaTotals.lean).
  GIVEN WITH THE SEED: the statements are not yours to turn. If you find one false, say at which input.
  Laid BY PROGRAM, IN A SANDBOX (cutbox-rows.mjs): the forced cells as the released guide's own fill.sh prints them over the translation 8bed49d2cf1929b7… (all of the seat's roots in one cut). By AI agents, Wed Nov 11 2026. No macro, syntax, notation, axiom, sorry.
-/
import Derived.Test.YtdihbpfoalmlcaaChecked
import GoSem.Claim
import GoSem.ClaimJoined
import GoSem.ClaimMapViews
import Derived.JoinedTies
import Derived.KernelRfl
namespace Go.Proofs.Ytdihbpfoalmlcaa
/- THE CELL 'sum', in the pinned program and in every row, IS THE sha256 OF THE DUMP (.gsa) THAT YtdihbpfoalmlcaaProg.lean LOADS. Nothing in Lean hashes anything: it is a label: what it is worth is what the hold of that sum in a sandbox is worth. -/
noncomputable def Try.pinned : Pinned := { name := "ytdihbpfoalmlcaa", sum := "8bed49d2cf1929b71ba0d6a1e885d76ba3607ce88797b8ec8e7f77ae257b4d66", checked := Try.checked }
namespace Rows
def none {H : Type} : Left H := { results := [], args := [] }

/-- 'playpenlaw03.SingleProducts': WHATEVER THE INPUT: true; the input reads as it did. -/
def singleProductsSpec : ChangeSpec := { name := "singleProducts", fn := fun _ => fun
  | [d1, d2] => { results := [.lit (.bool true)], args := [d1, d2] }
  | _ => none }
def singleProductsRow : OpenClaim := { program := "ytdihbpfoalmlcaa", sum := "8bed49d2cf1929b71ba0d6a1e885d76ba3607ce88797b8ec8e7f77ae257b4d66", func := "playpen/playpenlaw03.SingleProducts", spec := "singleProducts", inPlace := ["math.Float32frombits", "math.Float32bits"], apart := false }
def SingleProductsSaid : Prop := singleProductsRow.holds Try.pinned (OpenSpec.ofChange singleProductsSpec)

/-- ITS FALSE NEIGHBOUR: 'it returns false'. Refute it at one input. -/
def singleProductsWrong : ChangeSpec := { name := "singleProducts", fn := fun _ => fun
  | [d1, d2] => { results := [.lit (.bool false)], args := [d1, d2] }
  | _ => none }
def SingleProductsWrongFalsely : Prop := singleProductsRow.holds Try.pinned (OpenSpec.ofChange singleProductsWrong)

/-- 'playpenlaw03.SingleRatios': WHATEVER THE INPUT: true; the input reads as it did. -/
def singleRatiosSpec : ChangeSpec := { name := "singleRatios", fn := fun _ => fun
  | [d1, d2] => { results := [.lit (.bool true)], args := [d1, d2] }
  | _ => none }
def singleRatiosRow : OpenClaim := { program := "ytdihbpfoalmlcaa", sum := "8bed49d2cf1929b71ba0d6a1e885d76ba3607ce88797b8ec8e7f77ae257b4d66", func := "playpen/playpenlaw03.SingleRatios", spec := "singleRatios", inPlace := ["math.Float32frombits", "math.Float32bits"], apart := false }
def SingleRatiosSaid : Prop := singleRatiosRow.holds Try.pinned (OpenSpec.ofChange singleRatiosSpec)

/-- ITS FALSE NEIGHBOUR: 'it returns false'. Refute it at one input. -/
def singleRatiosWrong : ChangeSpec := { name := "singleRatios", fn := fun _ => fun
  | [d1, d2] => { results := [.lit (.bool false)], args := [d1, d2] }
  | _ => none }
def SingleRatiosWrongFalsely : Prop := singleRatiosRow.holds Try.pinned (OpenSpec.ofChange singleRatiosWrong)

/-- 'playpenlaw03.SingleSums': WHATEVER THE INPUT: true; the input reads as it did. -/
def singleSumsSpec : ChangeSpec := { name := "singleSums", fn := fun _ => fun
  | [d1, d2] => { results := [.lit (.bool true)], args := [d1, d2] }
  | _ => none }
def singleSumsRow : OpenClaim := { program := "ytdihbpfoalmlcaa", sum := "8bed49d2cf1929b71ba0d6a1e885d76ba3607ce88797b8ec8e7f77ae257b4d66", func := "playpen/playpenlaw03.SingleSums", spec := "singleSums", inPlace := ["math.Float32frombits", "math.Float32bits"], apart := false }
def SingleSumsSaid : Prop := singleSumsRow.holds Try.pinned (OpenSpec.ofChange singleSumsSpec)

/-- ITS FALSE NEIGHBOUR: 'it returns false'. Refute it at one input. -/
def singleSumsWrong : ChangeSpec := { name := "singleSums", fn := fun _ => fun
  | [d1, d2] => { results := [.lit (.bool false)], args := [d1, d2] }
  | _ => none }
def SingleSumsWrongFalsely : Prop := singleSumsRow.holds Try.pinned (OpenSpec.ofChange singleSumsWrong)

/-- 'playpenlaw03.SingleStands': WHATEVER THE INPUT: true; the input reads as it did. -/
def singleStandsSpec : ChangeSpec := { name := "singleStands", fn := fun _ => fun
  | [d1, d2] => { results := [.lit (.bool true)], args := [d1, d2] }
  | _ => none }
def singleStandsRow : OpenClaim := { program := "ytdihbpfoalmlcaa", sum := "8bed49d2cf1929b71ba0d6a1e885d76ba3607ce88797b8ec8e7f77ae257b4d66", func := "playpen/playpenlaw03.SingleStands", spec := "singleStands", inPlace := ["math.Float32frombits"], apart := false }
def SingleStandsSaid : Prop := singleStandsRow.holds Try.pinned (OpenSpec.ofChange singleStandsSpec)

/-- ITS FALSE NEIGHBOUR: 'it returns false'. Refute it at one input. -/
def singleStandsWrong : ChangeSpec := { name := "singleStands", fn := fun _ => fun
  | [d1, d2] => { results := [.lit (.bool false)], args := [d1, d2] }
  | _ => none }
def SingleStandsWrongFalsely : Prop := singleStandsRow.holds Try.pinned (OpenSpec.ofChange singleStandsWrong)

/-- 'playpenlaw03.SingleSteps': WHATEVER THE INPUT: true; the input reads as it did. -/
def singleStepsSpec : ChangeSpec := { name := "singleSteps", fn := fun _ => fun
  | [d] => { results := [.lit (.bool true)], args := [d] }
  | _ => none }
def singleStepsRow : OpenClaim := { program := "ytdihbpfoalmlcaa", sum := "8bed49d2cf1929b71ba0d6a1e885d76ba3607ce88797b8ec8e7f77ae257b4d66", func := "playpen/playpenlaw03.SingleSteps", spec := "singleSteps", apart := false }
def SingleStepsSaid : Prop := singleStepsRow.holds Try.pinned (OpenSpec.ofChange singleStepsSpec)

/-- ITS FALSE NEIGHBOUR: 'it returns false'. Refute it at one input. -/
def singleStepsWrong : ChangeSpec := { name := "singleSteps", fn := fun _ => fun
  | [d] => { results := [.lit (.bool false)], args := [d] }
  | _ => none }
def SingleStepsWrongFalsely : Prop := singleStepsRow.holds Try.pinned (OpenSpec.ofChange singleStepsWrong)

/-- 'playpenlaw03.SingleInts': WHATEVER THE INPUT: true; the input reads as it did. -/
def singleIntsSpec : ChangeSpec := { name := "singleInts", fn := fun _ => fun
  | [d1, d2] => { results := [.lit (.bool true)], args := [d1, d2] }
  | _ => none }
def singleIntsRow : OpenClaim := { program := "ytdihbpfoalmlcaa", sum := "8bed49d2cf1929b71ba0d6a1e885d76ba3607ce88797b8ec8e7f77ae257b4d66", func := "playpen/playpenlaw03.SingleInts", spec := "singleInts", inPlace := ["math.Float32bits", "math.Float32frombits"], apart := false }
def SingleIntsSaid : Prop := singleIntsRow.holds Try.pinned (OpenSpec.ofChange singleIntsSpec)

/-- ITS FALSE NEIGHBOUR: 'it returns false'. Refute it at one input. -/
def singleIntsWrong : ChangeSpec := { name := "singleInts", fn := fun _ => fun
  | [d1, d2] => { results := [.lit (.bool false)], args := [d1, d2] }
  | _ => none }
def SingleIntsWrongFalsely : Prop := singleIntsRow.holds Try.pinned (OpenSpec.ofChange singleIntsWrong)

/-- 'playpenlaw03.SingleParts': WHATEVER THE INPUT: true; the input reads as it did. -/
def singlePartsSpec : ChangeSpec := { name := "singleParts", fn := fun _ => fun
  | [d1, d2] => { results := [.lit (.bool true)], args := [d1, d2] }
  | _ => none }
def singlePartsRow : OpenClaim := { program := "ytdihbpfoalmlcaa", sum := "8bed49d2cf1929b71ba0d6a1e885d76ba3607ce88797b8ec8e7f77ae257b4d66", func := "playpen/playpenlaw03.SingleParts", spec := "singleParts", apart := false }
def SinglePartsSaid : Prop := singlePartsRow.holds Try.pinned (OpenSpec.ofChange singlePartsSpec)

/-- ITS FALSE NEIGHBOUR: 'it returns false'. Refute it at one input. -/
def singlePartsWrong : ChangeSpec := { name := "singleParts", fn := fun _ => fun
  | [d1, d2] => { results := [.lit (.bool false)], args := [d1, d2] }
  | _ => none }
def SinglePartsWrongFalsely : Prop := singlePartsRow.holds Try.pinned (OpenSpec.ofChange singlePartsWrong)

/-- 'playpenlaw03.SingleRounds': WHATEVER THE INPUT: true; the input reads as it did. -/
def singleRoundsSpec : ChangeSpec := { name := "singleRounds", fn := fun _ => fun
  | [d] => { results := [.lit (.bool true)], args := [d] }
  | _ => none }
def singleRoundsRow : OpenClaim := { program := "ytdihbpfoalmlcaa", sum := "8bed49d2cf1929b71ba0d6a1e885d76ba3607ce88797b8ec8e7f77ae257b4d66", func := "playpen/playpenlaw03.SingleRounds", spec := "singleRounds", apart := false }
def SingleRoundsSaid : Prop := singleRoundsRow.holds Try.pinned (OpenSpec.ofChange singleRoundsSpec)

/-- ITS FALSE NEIGHBOUR: 'it returns false'. Refute it at one input. -/
def singleRoundsWrong : ChangeSpec := { name := "singleRounds", fn := fun _ => fun
  | [d] => { results := [.lit (.bool false)], args := [d] }
  | _ => none }
def SingleRoundsWrongFalsely : Prop := singleRoundsRow.holds Try.pinned (OpenSpec.ofChange singleRoundsWrong)

/-- 'playpenlaw03.SingleRoots': WHATEVER THE INPUT: true; the input reads as it did. -/
def singleRootsSpec : ChangeSpec := { name := "singleRoots", fn := fun _ => fun
  | [d] => { results := [.lit (.bool true)], args := [d] }
  | _ => none }
def singleRootsRow : OpenClaim := { program := "ytdihbpfoalmlcaa", sum := "8bed49d2cf1929b71ba0d6a1e885d76ba3607ce88797b8ec8e7f77ae257b4d66", func := "playpen/playpenlaw03.SingleRoots", spec := "singleRoots", inPlace := ["math.Float32frombits", "math.sqrt", "math.Float32bits"], apart := false }
def SingleRootsSaid : Prop := singleRootsRow.holds Try.pinned (OpenSpec.ofChange singleRootsSpec)

/-- ITS FALSE NEIGHBOUR: 'it returns false'. Refute it at one input. -/
def singleRootsWrong : ChangeSpec := { name := "singleRoots", fn := fun _ => fun
  | [d] => { results := [.lit (.bool false)], args := [d] }
  | _ => none }
def SingleRootsWrongFalsely : Prop := singleRootsRow.holds Try.pinned (OpenSpec.ofChange singleRootsWrong)

/- THE SECOND FORM. 'bulk': how many values and letters a reading holds, each counted each time it is reached (what is shared counts as often as it is met; a slice's spare places count too). A statement '..UptoSaid' is the law's where the arguments, and the package variables that the reading takes, are together of bulk at most 1048576: NARROWER than '..Said'. Prove '..Said' where nothing that the law and all that it calls make is longer than what came in: it says more and counts as full. Else prove '..UptoSaid'. A law counts once. -/
mutual
def uptoBulk {H : Type} : DataW H → Nat
  | .lit (.string bytes) => bytes.length + 1
  | .lit _ => 1
  | .nil => 1
  | .ptr d => uptoBulk d + 1
  | .slice elems spare => uptoBulkAll elems + uptoBulkAll spare + 1
  | .agg parts => uptoBulkAll parts + 1
  | .iface _ d => uptoBulk d + 1
  | .map entries => uptoBulkEntries entries + 1
  | .held _ => 1
def uptoBulkAll {H : Type} : List (DataW H) → Nat
  | [] => 0
  | d :: r => uptoBulk d + uptoBulkAll r
def uptoBulkEntries {H : Type} : List (Lit × DataW H) → Nat
  | [] => 0
  | x :: r => uptoBulkEntry x + uptoBulkEntries r
def uptoBulkEntry {H : Type} : Lit × DataW H → Nat
  | (.string bytes, d) => bytes.length + uptoBulk d + 1
  | (_, d) => uptoBulk d + 1
 end
def uptoSmall : (H : Type) → List (DataW H) → Bool := fun _ ds => decide (uptoBulkAll ds ≤ 1048576)
def OpenSpec.upto (s : _root_.Go.ChangeSpec) : _root_.Go.OpenSpec := { _root_.Go.OpenSpec.ofChange s with cond := some uptoSmall }

/-- 'playpenlaw03.SingleProducts', WHERE WHAT IT READS IS OF BULK AT MOST 1048576: true; the input reads as it did. -/
def singleProductsUptoRow : OpenClaim := { program := "ytdihbpfoalmlcaa", sum := "8bed49d2cf1929b71ba0d6a1e885d76ba3607ce88797b8ec8e7f77ae257b4d66", func := "playpen/playpenlaw03.SingleProducts", spec := "singleProducts", inPlace := ["math.Float32frombits", "math.Float32bits"], apart := false, narrowed := true }
def SingleProductsUptoSaid : Prop := singleProductsUptoRow.holds Try.pinned (OpenSpec.upto singleProductsSpec)

/-- 'playpenlaw03.SingleRatios', WHERE WHAT IT READS IS OF BULK AT MOST 1048576: true; the input reads as it did. -/
def singleRatiosUptoRow : OpenClaim := { program := "ytdihbpfoalmlcaa", sum := "8bed49d2cf1929b71ba0d6a1e885d76ba3607ce88797b8ec8e7f77ae257b4d66", func := "playpen/playpenlaw03.SingleRatios", spec := "singleRatios", inPlace := ["math.Float32frombits", "math.Float32bits"], apart := false, narrowed := true }
def SingleRatiosUptoSaid : Prop := singleRatiosUptoRow.holds Try.pinned (OpenSpec.upto singleRatiosSpec)

/-- 'playpenlaw03.SingleSums', WHERE WHAT IT READS IS OF BULK AT MOST 1048576: true; the input reads as it did. -/
def singleSumsUptoRow : OpenClaim := { program := "ytdihbpfoalmlcaa", sum := "8bed49d2cf1929b71ba0d6a1e885d76ba3607ce88797b8ec8e7f77ae257b4d66", func := "playpen/playpenlaw03.SingleSums", spec := "singleSums", inPlace := ["math.Float32frombits", "math.Float32bits"], apart := false, narrowed := true }
def SingleSumsUptoSaid : Prop := singleSumsUptoRow.holds Try.pinned (OpenSpec.upto singleSumsSpec)

/-- 'playpenlaw03.SingleStands', WHERE WHAT IT READS IS OF BULK AT MOST 1048576: true; the input reads as it did. -/
def singleStandsUptoRow : OpenClaim := { program := "ytdihbpfoalmlcaa", sum := "8bed49d2cf1929b71ba0d6a1e885d76ba3607ce88797b8ec8e7f77ae257b4d66", func := "playpen/playpenlaw03.SingleStands", spec := "singleStands", inPlace := ["math.Float32frombits"], apart := false, narrowed := true }
def SingleStandsUptoSaid : Prop := singleStandsUptoRow.holds Try.pinned (OpenSpec.upto singleStandsSpec)

/-- 'playpenlaw03.SingleSteps', WHERE WHAT IT READS IS OF BULK AT MOST 1048576: true; the input reads as it did. -/
def singleStepsUptoRow : OpenClaim := { program := "ytdihbpfoalmlcaa", sum := "8bed49d2cf1929b71ba0d6a1e885d76ba3607ce88797b8ec8e7f77ae257b4d66", func := "playpen/playpenlaw03.SingleSteps", spec := "singleSteps", apart := false, narrowed := true }
def SingleStepsUptoSaid : Prop := singleStepsUptoRow.holds Try.pinned (OpenSpec.upto singleStepsSpec)

/-- 'playpenlaw03.SingleInts', WHERE WHAT IT READS IS OF BULK AT MOST 1048576: true; the input reads as it did. -/
def singleIntsUptoRow : OpenClaim := { program := "ytdihbpfoalmlcaa", sum := "8bed49d2cf1929b71ba0d6a1e885d76ba3607ce88797b8ec8e7f77ae257b4d66", func := "playpen/playpenlaw03.SingleInts", spec := "singleInts", inPlace := ["math.Float32bits", "math.Float32frombits"], apart := false, narrowed := true }
def SingleIntsUptoSaid : Prop := singleIntsUptoRow.holds Try.pinned (OpenSpec.upto singleIntsSpec)

/-- 'playpenlaw03.SingleParts', WHERE WHAT IT READS IS OF BULK AT MOST 1048576: true; the input reads as it did. -/
def singlePartsUptoRow : OpenClaim := { program := "ytdihbpfoalmlcaa", sum := "8bed49d2cf1929b71ba0d6a1e885d76ba3607ce88797b8ec8e7f77ae257b4d66", func := "playpen/playpenlaw03.SingleParts", spec := "singleParts", apart := false, narrowed := true }
def SinglePartsUptoSaid : Prop := singlePartsUptoRow.holds Try.pinned (OpenSpec.upto singlePartsSpec)

/-- 'playpenlaw03.SingleRounds', WHERE WHAT IT READS IS OF BULK AT MOST 1048576: true; the input reads as it did. -/
def singleRoundsUptoRow : OpenClaim := { program := "ytdihbpfoalmlcaa", sum := "8bed49d2cf1929b71ba0d6a1e885d76ba3607ce88797b8ec8e7f77ae257b4d66", func := "playpen/playpenlaw03.SingleRounds", spec := "singleRounds", apart := false, narrowed := true }
def SingleRoundsUptoSaid : Prop := singleRoundsUptoRow.holds Try.pinned (OpenSpec.upto singleRoundsSpec)

/-- 'playpenlaw03.SingleRoots', WHERE WHAT IT READS IS OF BULK AT MOST 1048576: true; the input reads as it did. -/
def singleRootsUptoRow : OpenClaim := { program := "ytdihbpfoalmlcaa", sum := "8bed49d2cf1929b71ba0d6a1e885d76ba3607ce88797b8ec8e7f77ae257b4d66", func := "playpen/playpenlaw03.SingleRoots", spec := "singleRoots", inPlace := ["math.Float32frombits", "math.sqrt", "math.Float32bits"], apart := false, narrowed := true }
def SingleRootsUptoSaid : Prop := singleRootsUptoRow.holds Try.pinned (OpenSpec.upto singleRootsSpec)

end Rows
end Go.Proofs.Ytdihbpfoalmlcaa
