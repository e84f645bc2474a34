/- Contract of package single's Turned; bits of words. -/
import Derived.Test.YtllchfdddfmjbaaSingle
import Derived.Laws.BitsAllLaws
namespace Go.Proofs.Ytllchfdddfmjbaa
open Go.RowKit Ieee

/-- The sign turned. -/
def turnW (a : Nat) : Nat := if a < 2147483648 then a + 2147483648 else a - 2147483648
theorem turnW_lt {a : Nat} (h : a ≤ 4294967295) : turnW a ≤ 4294967295 := by unfold turnW; split <;> omega

theorem xor_top (a : Nat) (h : a ≤ 4294967295) : a ^^^ 2147483648 = turnW a := by
  have h1 := Nat.xor_mod_two_pow (a := a) (b := 2147483648) (n := 31)
  have h2 := Nat.xor_div_two_pow (a := a) (b := 2147483648) (n := 31)
  have e1 : 2147483648 % 2 ^ 31 = 0 := by decide
  have e2 : 2147483648 / 2 ^ 31 = 1 := by decide
  rw [e1, Nat.xor_zero] at h1
  rw [e2] at h2
  have h3 := Nat.div_add_mod (a ^^^ 2147483648) (2 ^ 31)
  unfold turnW
  by_cases ha : a < 2147483648
  · have e3 : a / 2 ^ 31 = 0 := by omega
    rw [e3] at h2
    have e4 : 0 ^^^ 1 = 1 := by decide
    rw [e4] at h2
    rw [if_pos ha]
    omega
  · have e3 : a / 2 ^ 31 = 1 := by omega
    rw [e3] at h2
    have e4 : 1 ^^^ 1 = 0 := by decide
    rw [e4] at h2
    rw [if_neg ha]
    omega
theorem bits_xor_top (a : Nat) (h : a ≤ 4294967295) : bits .xor .u32 (a : Int) 2147483648 = (turnW a : Nat) := by
  have h1 := u32_xor_nat a 2147483648 (by omega) (by omega)
  rw [xor_top a h] at h1
  exact h1
theorem bits_size (a : Nat) (h : a ≤ 4294967295) : bits .andNot .u32 (a : Int) 2147483648 = ((a % 2147483648 : Nat) : Int) := by
  have h1 := u32_andNot_nat a 2147483648 (by omega) (by omega)
  have h2 : a &&& (4294967295 - 2147483648) = a % 2147483648 := Nat.and_two_pow_sub_one_eq_mod a 31
  rw [h2] at h1
  exact h1
theorem bits_low (a : Nat) (h : a ≤ 4294967295) : bits .and .u32 (a : Int) 2147483647 = ((a % 2147483648 : Nat) : Int) := by
  have h1 := u32_and_nat a 2147483647 (by omega) (by omega)
  have h2 : a &&& 2147483647 = a % 2147483648 := Nat.and_two_pow_sub_one_eq_mod a 31
  rw [h2] at h1
  exact h1
theorem bits_sign (a : Nat) (h : a ≤ 4294967295) : bits .and .u32 (a : Int) 2147483648 = ((a / 2147483648 * 2147483648 : Nat) : Int) := by
  have h1 := u32_and_nat a 2147483648 (by omega) (by omega)
  have h2 : a &&& 2147483648 = a / 2 ^ 31 % 2 * 2 ^ 31 := nat_bit 31 a
  rw [h2, show a / 2 ^ 31 % 2 * 2 ^ 31 = a / 2147483648 * 2147483648 from by omega] at h1
  exact h1

theorem Turned_any (a : Nat) (h : a ≤ 4294967295) (w : World) : Calls Try.prog 33 #[.int .u32 a] w fun e w' => e = .returned (.int .u32 (turnW a : Nat)) ∧ w = w' := by
  have hx := bits_xor_top a h
  go_enter Try.func33, Try.ntmps33
  go_wp2
  go_ret
  exact ⟨rfl, rfl⟩
end Go.Proofs.Ytllchfdddfmjbaa
