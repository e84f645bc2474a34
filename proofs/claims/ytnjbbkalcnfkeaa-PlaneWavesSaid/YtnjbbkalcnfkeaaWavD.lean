/- Contracts: the spectrum of a number of points that it refuses; bounded. -/
import Derived.Test.YtnjbbkalcnfkeaaWavC
namespace Go.Proofs.Ytnjbbkalcnfkeaa
open Go.RowKit Ieee
set_option linter.unusedVariables false

theorem bounded_any (x r : Int) (hr : x.tmod 1099511627776 = r) (w : World) : Calls Try.prog 20 #[.int .i64 x] w fun e w' => e = .returned (.int .i64 r) ∧ w = w' := by
  go_enter Try.func20, Try.ntmps20
  go_wp2
  go_ret
  exact ⟨rfl, rfl⟩

set_option maxRecDepth 100000 in
set_option maxHeartbeats 4000000 in
theorem wave_bad (A : Option Addr) (n cap : Nat) (hn : ¬ (n = 1 ∨ n = 2 ∨ n = 4 ∨ n = 8)) (w : World) :
    Calls Try.prog 21 #[.slice A n cap, .bool false] w fun e w' => e = .returned (.tuple #[.slice none 0 0, .int .i64 51]) ∧ w = w' := by
  have h1 : ((n : Int) != 1) = true := bne_iff_ne.2 (by omega)
  have h2 : ((n : Int) != 2) = true := bne_iff_ne.2 (by omega)
  have h4 : ((n : Int) != 4) = true := bne_iff_ne.2 (by omega)
  have h8 : ((n : Int) != 8) = true := bne_iff_ne.2 (by omega)
  clear hn
  go_enter Try.func21, Try.ntmps21
  go_wp2
  go_ret2
  exact ⟨rfl, rfl⟩
end Go.Proofs.Ytnjbbkalcnfkeaa
