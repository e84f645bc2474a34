/- Contracts of package plane: turned, alike, Same, Turn, Add, Mul, Cross (printed by a program of ours). -/
import Derived.Test.YtnjbbkalcnfkeaaPlaneW
import Derived.Laws.BitsAllLaws
namespace Go.Proofs.Ytnjbbkalcnfkeaa
open Go.RowKit Ieee
set_option linter.unusedVariables false

@[go_sem] theorem run_bits64 (n : Nat) (w : World) : (callFunc 63 #[.float .f64 n]).run Try.prog w = .ok (.value (.int .u64 n)) w := by
  rw [run_callFunc_extern Try.func63 (by kernel_rfl) (by kernel_rfl) (by kernel_rfl) (e := Extern.MathFloatBits.float64bits) (by kernel_rfl)]
  rfl
@[go_sem] theorem run_from64 (n : Nat) (w : World) : (callFunc 64 #[.int .u64 (n : Int)]).run Try.prog w = .ok (.value (.float .f64 n)) w := by
  rw [run_callFunc_extern Try.func64 (by kernel_rfl) (by kernel_rfl) (by kernel_rfl) (e := Extern.MathFloatBits.float64frombits) (by kernel_rfl)]
  rfl

/-- The sign turned. -/
def tnW (x : Nat) : Nat := x ^^^ 9223372036854775808
theorem tn_tn (x : Nat) : tnW (tnW x) = x := by unfold tnW; rw [Nat.xor_assoc, Nat.xor_self, Nat.xor_zero]
theorem tn_lt {x : Nat} (h : x < 18446744073709551616) : tnW x < 18446744073709551616 := by
  unfold tnW
  exact Nat.xor_lt_two_pow (n := 64) h (by omega)
theorem turned_any (x : Nat) (hx : x < 18446744073709551616) (w : World) : Calls Try.prog 35 #[.float .f64 x] w fun e w' => e = .returned (.float .f64 (tnW x)) ∧ w = w' := by
  have hb : bits .xor .u64 (x : Int) 9223372036854775808 = ((tnW x : Nat) : Int) := u64_xor_nat x 9223372036854775808 hx (by omega)
  obtain ⟨y, hy⟩ : ∃ y, tnW x = y := ⟨_, rfl⟩
  rw [hy] at hb ⊢
  clear hy hx
  go_enter Try.func35, Try.ntmps35
  go_wp2
  go_ret
  exact ⟨rfl, rfl⟩

/-! ### Turn -/
theorem i64_and3 (n : Int) : bits .and .i64 n 3 = n % 4 := by
  have h3 : (BitVec.ofInt 64 3).toNat = 2 ^ 2 - 1 := by decide
  have key : (BitVec.ofInt 64 n &&& BitVec.ofInt 64 3).toNat = (n % ((2 ^ 64 : Nat) : Int)).toNat % 2 ^ 2 := by
    rw [BitVec.toNat_and, BitVec.toNat_ofInt, h3, Nat.and_two_pow_sub_one_eq_mod]
  show IntKind.i64.wrap ((BitVec.ofInt 64 n &&& BitVec.ofInt 64 3).toNat : Nat) = n % 4
  rw [key, IntKind.wrap_i64]
  omega
def rotX (k : Int) (x y : Nat) : Nat := if k = 1 then tnW y else if k = 2 then tnW x else if k = 3 then y else x
def rotY (k : Int) (x y : Nat) : Nat := if k = 1 then x else if k = 2 then tnW y else if k = 3 then tnW x else y
theorem rot_lt (k : Int) {x y : Nat} (hx : x < 18446744073709551616) (hy : y < 18446744073709551616) : rotX k x y < 18446744073709551616 ∧ rotY k x y < 18446744073709551616 := by
  unfold rotX rotY
  have h1 := tn_lt hx
  have h2 := tn_lt hy
  constructor <;> (split; · assumption
                   split; · assumption
                   split <;> assumption)
theorem rot_rot (p q : Int) (x y : Nat) : rotX (q % 4) (rotX (p % 4) x y) (rotY (p % 4) x y) = rotX ((p + q) % 4) x y ∧ rotY (q % 4) (rotX (p % 4) x y) (rotY (p % 4) x y) = rotY ((p + q) % 4) x y := by
  have hp : p % 4 = 0 ∨ p % 4 = 1 ∨ p % 4 = 2 ∨ p % 4 = 3 := by omega
  have hq : q % 4 = 0 ∨ q % 4 = 1 ∨ q % 4 = 2 ∨ q % 4 = 3 := by omega
  have e : (p + q) % 4 = (p % 4 + q % 4) % 4 := by omega
  rw [e]
  rcases hp with h | h | h | h <;> rcases hq with g | g | g | g <;> rw [h, g] <;> simp [rotX, rotY, tn_tn]
theorem turn_0 (x y : Nat) (hx : x < 18446744073709551616) (hy : y < 18446744073709551616) (q : Int) (hq : bits .and .i64 q 3 = 0) (w : World) : Calls Try.prog 17 #[.complex .f64 x y, .int .i64 q] w fun e w' => e = .returned (.complex .f64 x y) ∧ w = w' := by
  have c1 := Lib.hid (fun W => turned_any x hx W)
  have c2 := Lib.hid (fun W => turned_any y hy W)
  clear hx hy
  go_enter Try.func17, Try.ntmps17
  go_wp2
  go_ret
  exact ⟨rfl, rfl⟩
theorem turn_1 (x y : Nat) (hx : x < 18446744073709551616) (hy : y < 18446744073709551616) (q : Int) (hq : bits .and .i64 q 3 = 1) (w : World) : Calls Try.prog 17 #[.complex .f64 x y, .int .i64 q] w fun e w' => e = .returned (.complex .f64 (tnW y) x) ∧ w = w' := by
  have c1 := Lib.hid (fun W => turned_any x hx W)
  have c2 := Lib.hid (fun W => turned_any y hy W)
  clear hx hy
  go_enter Try.func17, Try.ntmps17
  go_wp2_with fail
  refine (c2.out _).mono ?_
  rintro e w' ⟨rfl, rfl⟩
  go_wp2
  go_ret
  exact ⟨rfl, rfl⟩
theorem turn_2 (x y : Nat) (hx : x < 18446744073709551616) (hy : y < 18446744073709551616) (q : Int) (hq : bits .and .i64 q 3 = 2) (w : World) : Calls Try.prog 17 #[.complex .f64 x y, .int .i64 q] w fun e w' => e = .returned (.complex .f64 (tnW x) (tnW y)) ∧ w = w' := by
  have c1 := Lib.hid (fun W => turned_any x hx W)
  have c2 := Lib.hid (fun W => turned_any y hy W)
  clear hx hy
  go_enter Try.func17, Try.ntmps17
  go_wp2_with fail
  refine (c1.out _).mono ?_
  rintro e w' ⟨rfl, rfl⟩
  go_wp2_with fail
  refine (c2.out _).mono ?_
  rintro e w' ⟨rfl, rfl⟩
  go_wp2
  go_ret
  exact ⟨rfl, rfl⟩
theorem turn_3 (x y : Nat) (hx : x < 18446744073709551616) (hy : y < 18446744073709551616) (q : Int) (hq : bits .and .i64 q 3 = 3) (w : World) : Calls Try.prog 17 #[.complex .f64 x y, .int .i64 q] w fun e w' => e = .returned (.complex .f64 y (tnW x)) ∧ w = w' := by
  have c1 := Lib.hid (fun W => turned_any x hx W)
  have c2 := Lib.hid (fun W => turned_any y hy W)
  clear hx hy
  go_enter Try.func17, Try.ntmps17
  go_wp2_with fail
  refine (c1.out _).mono ?_
  rintro e w' ⟨rfl, rfl⟩
  go_wp2
  go_ret
  exact ⟨rfl, rfl⟩
theorem Turn_any (x y : Nat) (hx : x < 18446744073709551616) (hy : y < 18446744073709551616) (q : Int) (w : World) : Calls Try.prog 17 #[.complex .f64 x y, .int .i64 q] w fun e w' => e = .returned (.complex .f64 (rotX (q % 4) x y) (rotY (q % 4) x y)) ∧ w = w' := by
  have hq : q % 4 = 0 ∨ q % 4 = 1 ∨ q % 4 = 2 ∨ q % 4 = 3 := by omega
  have h3 := i64_and3 q
  rcases hq with h | h | h | h <;> rw [h] at h3 ⊢
  · exact turn_0 x y hx hy q h3 w
  · exact turn_1 x y hx hy q h3 w
  · exact turn_2 x y hx hy q h3 w
  · exact turn_3 x y hx hy q h3 w

/-! ### Same -/
def Alk (x y : Nat) : Prop := ((double.read x).isNaN = true ∧ (double.read y).isNaN = true) ∨ x = y
theorem alike_any (x y : Nat) (h : Alk x y) (w : World) : Calls Try.prog 34 #[.float .f64 x, .float .f64 y] w fun e w' => e = .returned (.bool true) ∧ w = w' := by
  have ox := order_self double x
  have oy := order_self double y
  by_cases hn : (double.read x).isNaN = true ∧ (double.read y).isNaN = true
  · rw [if_pos hn.1] at ox
    rw [if_pos hn.2] at oy
    have hx : (FloatKind.f64.format.order x x != some .eq) = true := by rw [show FloatKind.f64.format = double from rfl, ox]; rfl
    have hy : (FloatKind.f64.format.order y y != some .eq) = true := by rw [show FloatKind.f64.format = double from rfl, oy]; rfl
    clear ox oy hn h
    go_enter Try.func34, Try.ntmps34
    go_wp2
    go_ret
    exact ⟨rfl, rfl⟩
  · obtain rfl : x = y := h.resolve_left hn
    have hn1 : ¬ (double.read x).isNaN = true := fun h => hn ⟨h, h⟩
    rw [if_neg hn1] at ox
    have hx : (FloatKind.f64.format.order x x != some .eq) = false := by rw [show FloatKind.f64.format = double from rfl, ox]; rfl
    clear ox oy hn h hn1
    go_enter Try.func34, Try.ntmps34
    go_wp2
    go_ret
    exact ⟨by simp, rfl⟩
theorem Same_any (a b c d : Nat) (h1 : Alk a c) (h2 : Alk b d) (w : World) : Calls Try.prog 16 #[.complex .f64 a b, .complex .f64 c d] w fun e w' => e = .returned (.bool true) ∧ w = w' := by
  have c1 := Lib.hid (fun W => alike_any a c h1 W)
  have c2 := Lib.hid (fun W => alike_any b d h2 W)
  clear h1 h2
  go_enter Try.func16, Try.ntmps16
  go_wp2_with fail
  refine (c1.out _).mono ?_
  rintro e w' ⟨rfl, rfl⟩
  go_wp2_with fail
  refine (c2.out _).mono ?_
  rintro e w' ⟨rfl, rfl⟩
  go_wp2
  go_ret
  exact ⟨rfl, rfl⟩
end Go.Proofs.Ytnjbbkalcnfkeaa
