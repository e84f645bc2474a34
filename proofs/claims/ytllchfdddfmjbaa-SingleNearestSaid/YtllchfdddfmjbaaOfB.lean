/- Contract of the program's Of. -/
import Derived.Test.YtllchfdddfmjbaaSingle
namespace Go.Proofs.Ytllchfdddfmjbaa
open Go.RowKit Ieee

/-- The word of a whole number. -/
def ofW (n : Int) : Nat := clean (single.nearest (decide (n < 0)) n.natAbs 0)

theorem Of_any (n : Int) (w : World) : Calls Try.prog 13 #[.int .i32 n] w fun e w' => e = .returned (.int .u32 (ofW n : Nat)) ∧ w = w' := by
  have HC := Lib.hid (show clean (floatOfInt .f32 n) = ofW n from rfl)
  go_enter Try.func13, Try.ntmps13
  go_wp2_with fail
  refine (word_any _ _).mono ?_
  rintro e w' ⟨rfl, rfl⟩
  rw [HC.out]
  go_wp2
  go_ret
  exact ⟨rfl, rfl⟩
end Go.Proofs.Ytllchfdddfmjbaa
