/- Contract of the reference's Turned. -/
import Derived.Test.YtfgbjaejkfkmmaaTurn
import Derived.Test.YtfgbjaejkfkmmaaBel
namespace Go.Proofs.Ytfgbjaejkfkmmaa
open Go.RowKit Ieee

theorem RefTurned_any (a : Nat) (h : a ≤ 4294967295) (w : World) : Calls Try.prog 37 #[.int .u32 a] w (Ret w (.int .u32 (turnW a : Nat))) := by
  by_cases ha : a < 2147483648
  · have HR := Lib.hid (show ((turnW a : Nat) : Int) = (a : Int) + 2147483648 from by unfold turnW; rw [if_pos ha]; omega)
    have hc : decide ((2147483648 : Int) ≤ (a : Int)) = false := decide_eq_false (by omega)
    go_enter Try.func37, Try.ntmps37
    go_wp2
    go_ret
    exact ⟨by rw [HR.out]; rfl, Below.refl _ _⟩
  · have HR := Lib.hid (show ((turnW a : Nat) : Int) = (a : Int) - 2147483648 from by unfold turnW; rw [if_neg ha]; omega)
    have hc : decide ((2147483648 : Int) ≤ (a : Int)) = true := decide_eq_true (by omega)
    go_enter Try.func37, Try.ntmps37
    go_wp2
    go_ret
    exact ⟨by rw [HR.out]; rfl, Below.refl _ _⟩
end Go.Proofs.Ytfgbjaejkfkmmaa
