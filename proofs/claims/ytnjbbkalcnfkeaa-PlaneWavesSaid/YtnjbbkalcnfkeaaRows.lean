/-
  No cell of these rows narrows 'for every input' (looked for: loops, veiled, ifaces, maps, wideKeys, modest, calm, conditions, laid).
  DERIVED. THE GIVEN ROWS OF THIS SEAT. 5 by the template 'for every input the law returns true; each argument reads behind the call as it read before'; 0 by the template 'total and deterministic' (their statements: YtnjbbkalcnfkeaaTotals.lean).
  GIVEN WITH THE SEED: the statements are not yours to turn. If you find one false, say at which input.
  Laid BY PROGRAM, IN A SANDBOX (cutbox-rows.mjs): the forced cells as the released guide's own fill.sh prints them over the translation 60afea88ebe4ae2f… (all of the seat's roots in one cut). By AI agents, Wed Nov 11 2026. No macro, syntax, notation, axiom, sorry.
-/
import Derived.Test.YtnjbbkalcnfkeaaChecked
import GoSem.Claim
import GoSem.ClaimJoined
import GoSem.ClaimMapViews
import Derived.JoinedTies
import Derived.KernelRfl
namespace Go.Proofs.Ytnjbbkalcnfkeaa
/- THE CELL 'sum', in the pinned program and in every row, IS THE sha256 OF THE DUMP (.gsa) THAT YtnjbbkalcnfkeaaProg.lean LOADS. Nothing in Lean hashes anything: it is a label: what it is worth is what the hold of that sum in a sandbox is worth. -/
noncomputable def Try.pinned : Pinned := { name := "ytnjbbkalcnfkeaa", sum := "60afea88ebe4ae2f7098cc52477e69d693b75e9e28650e12f814d5883ccd32a5", checked := Try.checked }
namespace Rows
def none {H : Type} : Left H := { results := [], args := [] }

/-- 'playpenlaw05.PlaneNames': WHATEVER THE INPUT: true; the input reads as it did. -/
def planeNamesSpec : ChangeSpec := { name := "planeNames", fn := fun _ => fun
  | [] => { results := [.lit (.bool true)], args := [] }
  | _ => none }
def planeNamesRow : OpenClaim := { program := "ytnjbbkalcnfkeaa", sum := "60afea88ebe4ae2f7098cc52477e69d693b75e9e28650e12f814d5883ccd32a5", func := "playpen/playpenlaw05.PlaneNames", spec := "planeNames", apart := false }
def PlaneNamesSaid : Prop := planeNamesRow.holds Try.pinned (OpenSpec.ofChange planeNamesSpec)

/-- ITS FALSE NEIGHBOUR: 'it returns false'. Refute it at one input. -/
def planeNamesWrong : ChangeSpec := { name := "planeNames", fn := fun _ => fun
  | [] => { results := [.lit (.bool false)], args := [] }
  | _ => none }
def PlaneNamesWrongFalsely : Prop := planeNamesRow.holds Try.pinned (OpenSpec.ofChange planeNamesWrong)

/-- 'playpenlaw05.PlaneWords': WHATEVER THE INPUT: true; the input reads as it did. -/
def planeWordsSpec : ChangeSpec := { name := "planeWords", fn := fun _ => fun
  | [d1, d2] => { results := [.lit (.bool true)], args := [d1, d2] }
  | _ => none }
def planeWordsRow : OpenClaim := { program := "ytnjbbkalcnfkeaa", sum := "60afea88ebe4ae2f7098cc52477e69d693b75e9e28650e12f814d5883ccd32a5", func := "playpen/playpenlaw05.PlaneWords", spec := "planeWords", inPlace := ["math.Float32frombits", "math.Float32bits"], apart := false }
def PlaneWordsSaid : Prop := planeWordsRow.holds Try.pinned (OpenSpec.ofChange planeWordsSpec)

/-- ITS FALSE NEIGHBOUR: 'it returns false'. Refute it at one input. -/
def planeWordsWrong : ChangeSpec := { name := "planeWords", fn := fun _ => fun
  | [d1, d2] => { results := [.lit (.bool false)], args := [d1, d2] }
  | _ => none }
def PlaneWordsWrongFalsely : Prop := planeWordsRow.holds Try.pinned (OpenSpec.ofChange planeWordsWrong)

/-- 'playpenlaw05.PlaneTurns': WHATEVER THE INPUT: true; the input reads as it did. -/
def planeTurnsSpec : ChangeSpec := { name := "planeTurns", fn := fun _ => fun
  | [d1, d2, d3, d4] => { results := [.lit (.bool true)], args := [d1, d2, d3, d4] }
  | _ => none }
def planeTurnsRow : OpenClaim := { program := "ytnjbbkalcnfkeaa", sum := "60afea88ebe4ae2f7098cc52477e69d693b75e9e28650e12f814d5883ccd32a5", func := "playpen/playpenlaw05.PlaneTurns", spec := "planeTurns", inPlace := ["math.Float64bits", "math.Float64frombits"], apart := false }
def PlaneTurnsSaid : Prop := planeTurnsRow.holds Try.pinned (OpenSpec.ofChange planeTurnsSpec)

/-- ITS FALSE NEIGHBOUR: 'it returns false'. Refute it at one input. -/
def planeTurnsWrong : ChangeSpec := { name := "planeTurns", fn := fun _ => fun
  | [d1, d2, d3, d4] => { results := [.lit (.bool false)], args := [d1, d2, d3, d4] }
  | _ => none }
def PlaneTurnsWrongFalsely : Prop := planeTurnsRow.holds Try.pinned (OpenSpec.ofChange planeTurnsWrong)

/-- 'playpenlaw05.PlaneWaves': WHATEVER THE INPUT: true; the input reads as it did. -/
def planeWavesSpec : ChangeSpec := { name := "planeWaves", fn := fun _ => fun
  | [d] => { results := [.lit (.bool true)], args := [d] }
  | _ => none }
def planeWavesRow : OpenClaim := { program := "ytnjbbkalcnfkeaa", sum := "60afea88ebe4ae2f7098cc52477e69d693b75e9e28650e12f814d5883ccd32a5", func := "playpen/playpenlaw05.PlaneWaves", spec := "planeWaves", apart := false }
def PlaneWavesSaid : Prop := planeWavesRow.holds Try.pinned (OpenSpec.ofChange planeWavesSpec)

/-- ITS FALSE NEIGHBOUR: 'it returns false'. Refute it at one input. -/
def planeWavesWrong : ChangeSpec := { name := "planeWaves", fn := fun _ => fun
  | [d] => { results := [.lit (.bool false)], args := [d] }
  | _ => none }
def PlaneWavesWrongFalsely : Prop := planeWavesRow.holds Try.pinned (OpenSpec.ofChange planeWavesWrong)

/-- 'playpenlaw05.PlaneCalls': WHATEVER THE INPUT: true; the input reads as it did. -/
def planeCallsSpec : ChangeSpec := { name := "planeCalls", fn := fun _ => fun
  | [d] => { results := [.lit (.bool true)], args := [d] }
  | _ => none }
def planeCallsRow : OpenClaim := { program := "ytnjbbkalcnfkeaa", sum := "60afea88ebe4ae2f7098cc52477e69d693b75e9e28650e12f814d5883ccd32a5", func := "playpen/playpenlaw05.PlaneCalls", spec := "planeCalls", inPlace := ["math.Float64bits", "math.Float64frombits", "math.sqrt", "math.Float32bits", "math.Float32frombits"], apart := false }
def PlaneCallsSaid : Prop := planeCallsRow.holds Try.pinned (OpenSpec.ofChange planeCallsSpec)

/-- ITS FALSE NEIGHBOUR: 'it returns false'. Refute it at one input. -/
def planeCallsWrong : ChangeSpec := { name := "planeCalls", fn := fun _ => fun
  | [d] => { results := [.lit (.bool false)], args := [d] }
  | _ => none }
def PlaneCallsWrongFalsely : Prop := planeCallsRow.holds Try.pinned (OpenSpec.ofChange planeCallsWrong)

/- THE SECOND FORM. 'bulk': how many values and letters a reading holds, each counted each time it is reached (what is shared counts as often as it is met; a slice's spare places count too). A statement '..UptoSaid' is the law's where the arguments, and the package variables that the reading takes, are together of bulk at most 1048576: NARROWER than '..Said'. Prove '..Said' where nothing that the law and all that it calls make is longer than what came in: it says more and counts as full. Else prove '..UptoSaid'. A law counts once. -/
mutual
def uptoBulk {H : Type} : DataW H → Nat
  | .lit (.string bytes) => bytes.length + 1
  | .lit _ => 1
  | .nil => 1
  | .ptr d => uptoBulk d + 1
  | .slice elems spare => uptoBulkAll elems + uptoBulkAll spare + 1
  | .agg parts => uptoBulkAll parts + 1
  | .iface _ d => uptoBulk d + 1
  | .map entries => uptoBulkEntries entries + 1
  | .held _ => 1
def uptoBulkAll {H : Type} : List (DataW H) → Nat
  | [] => 0
  | d :: r => uptoBulk d + uptoBulkAll r
def uptoBulkEntries {H : Type} : List (Lit × DataW H) → Nat
  | [] => 0
  | x :: r => uptoBulkEntry x + uptoBulkEntries r
def uptoBulkEntry {H : Type} : Lit × DataW H → Nat
  | (.string bytes, d) => bytes.length + uptoBulk d + 1
  | (_, d) => uptoBulk d + 1
 end
def uptoSmall : (H : Type) → List (DataW H) → Bool := fun _ ds => decide (uptoBulkAll ds ≤ 1048576)
def OpenSpec.upto (s : _root_.Go.ChangeSpec) : _root_.Go.OpenSpec := { _root_.Go.OpenSpec.ofChange s with cond := some uptoSmall }

/-- 'playpenlaw05.PlaneNames', WHERE WHAT IT READS IS OF BULK AT MOST 1048576: true; the input reads as it did. -/
def planeNamesUptoRow : OpenClaim := { program := "ytnjbbkalcnfkeaa", sum := "60afea88ebe4ae2f7098cc52477e69d693b75e9e28650e12f814d5883ccd32a5", func := "playpen/playpenlaw05.PlaneNames", spec := "planeNames", apart := false, narrowed := true }
def PlaneNamesUptoSaid : Prop := planeNamesUptoRow.holds Try.pinned (OpenSpec.upto planeNamesSpec)

/-- 'playpenlaw05.PlaneWords', WHERE WHAT IT READS IS OF BULK AT MOST 1048576: true; the input reads as it did. -/
def planeWordsUptoRow : OpenClaim := { program := "ytnjbbkalcnfkeaa", sum := "60afea88ebe4ae2f7098cc52477e69d693b75e9e28650e12f814d5883ccd32a5", func := "playpen/playpenlaw05.PlaneWords", spec := "planeWords", inPlace := ["math.Float32frombits", "math.Float32bits"], apart := false, narrowed := true }
def PlaneWordsUptoSaid : Prop := planeWordsUptoRow.holds Try.pinned (OpenSpec.upto planeWordsSpec)

/-- 'playpenlaw05.PlaneTurns', WHERE WHAT IT READS IS OF BULK AT MOST 1048576: true; the input reads as it did. -/
def planeTurnsUptoRow : OpenClaim := { program := "ytnjbbkalcnfkeaa", sum := "60afea88ebe4ae2f7098cc52477e69d693b75e9e28650e12f814d5883ccd32a5", func := "playpen/playpenlaw05.PlaneTurns", spec := "planeTurns", inPlace := ["math.Float64bits", "math.Float64frombits"], apart := false, narrowed := true }
def PlaneTurnsUptoSaid : Prop := planeTurnsUptoRow.holds Try.pinned (OpenSpec.upto planeTurnsSpec)

/-- 'playpenlaw05.PlaneWaves', WHERE WHAT IT READS IS OF BULK AT MOST 1048576: true; the input reads as it did. -/
def planeWavesUptoRow : OpenClaim := { program := "ytnjbbkalcnfkeaa", sum := "60afea88ebe4ae2f7098cc52477e69d693b75e9e28650e12f814d5883ccd32a5", func := "playpen/playpenlaw05.PlaneWaves", spec := "planeWaves", apart := false, narrowed := true }
def PlaneWavesUptoSaid : Prop := planeWavesUptoRow.holds Try.pinned (OpenSpec.upto planeWavesSpec)

/-- 'playpenlaw05.PlaneCalls', WHERE WHAT IT READS IS OF BULK AT MOST 1048576: true; the input reads as it did. -/
def planeCallsUptoRow : OpenClaim := { program := "ytnjbbkalcnfkeaa", sum := "60afea88ebe4ae2f7098cc52477e69d693b75e9e28650e12f814d5883ccd32a5", func := "playpen/playpenlaw05.PlaneCalls", spec := "planeCalls", inPlace := ["math.Float64bits", "math.Float64frombits", "math.sqrt", "math.Float32bits", "math.Float32frombits"], apart := false, narrowed := true }
def PlaneCallsUptoSaid : Prop := planeCallsUptoRow.holds Try.pinned (OpenSpec.upto planeCallsSpec)

end Rows
end Go.Proofs.Ytnjbbkalcnfkeaa
