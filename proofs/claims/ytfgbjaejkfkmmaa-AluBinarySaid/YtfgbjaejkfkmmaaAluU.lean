/- Contracts of package alu's unary operations (printed by a program of ours). -/
import Derived.Test.YtfgbjaejkfkmmaaAluB
import Derived.Test.YtfgbjaejkfkmmaaTurn
import Derived.Test.YtfgbjaejkfkmmaaOfB
import Derived.Test.YtfgbjaejkfkmmaaTowB
namespace Go.Proofs.Ytfgbjaejkfkmmaa
open Go.RowKit Ieee
set_option linter.unusedVariables false

/-- The lowest bits with their sign. -/
def sex8 (a : Nat) : Nat := if a % 256 < 128 then a % 256 else a % 256 + 4294967040
def sex16 (a : Nat) : Nat := if a % 65536 < 32768 then a % 65536 else a % 65536 + 4294901760

theorem wrap_i8 (n : Int) : IntKind.i8.wrap n = (n + 128) % 256 - 128 := by
  simp [IntKind.wrap, IntKind.bits, IntKind.signed]
  split <;> omega
theorem wrap_i16 (n : Int) : IntKind.i16.wrap n = (n + 32768) % 65536 - 32768 := by
  simp [IntKind.wrap, IntKind.bits, IntKind.signed]
  split <;> omega
theorem nat_not (a : Nat) (h : a ≤ 4294967295) : 4294967295 ^^^ a = 4294967295 - a := by
  apply Nat.eq_of_testBit_eq
  intro i
  rw [Nat.testBit_xor, show (4294967295 : Nat) = 2 ^ 32 - 1 from rfl, Nat.testBit_two_pow_sub_one, show 2 ^ 32 - 1 - a = 2 ^ 32 - (a + 1) from by omega, Nat.testBit_two_pow_sub_succ (by omega)]
  by_cases hi : i < 32
  · simp [hi]
  · have h1 : 2 ^ 32 ≤ 2 ^ i := Nat.pow_le_pow_right (by omega) (by omega)
    simp [hi, Nat.testBit_lt_two_pow (show a < 2 ^ i from by omega)]
theorem not_bits (a : Nat) (h : a ≤ 4294967295) : bits .xor .u32 IntKind.u32.max (a : Int) = ((4294967295 - a : Nat) : Int) := by
  have h1 := u32_xor_nat 4294967295 a (by omega) (by omega)
  rw [show IntKind.u32.max = ((4294967295 : Nat) : Int) from rfl, h1]
  exact congrArg Int.ofNat (nat_not a h)
theorem can_small (a : Nat) : ∀ s m p, single.read a = .number s m p → m < 16777216 := by
  intro s m p h
  unfold Format.read at h
  rw [single_sign, show single.binade = 8388608 from by decide, single_inf] at h
  simp only at h
  split at h
  · injection h with _ h2; omega
  · split at h
    · injection h with _ h2; omega
    · split at h <;> cases h

theorem un_36 (a r : Nat) (ha : a ≤ 4294967295) (h : sex8 a = r) (w : World) :
    Calls Try.prog 20 #[.int .u8 36, .int .u32 (a : Int)] w fun e w' => e = .returned (.tuple #[.int .u32 (r : Nat), .int .i64 0]) ∧ w = w' := by
  have HR := Lib.hid (show IntKind.i8.wrap (a : Int) % 4294967296 = (r : Int) from by rw [wrap_i8]; unfold sex8 at h; split at h <;> omega)
  clear h
  go_enter Try.func20, Try.ntmps20
  go_wp2
  go_ret2
  exact ⟨ret_pair HR.out, rfl⟩

theorem un_37 (a r : Nat) (ha : a ≤ 4294967295) (h : sex16 a = r) (w : World) :
    Calls Try.prog 20 #[.int .u8 37, .int .u32 (a : Int)] w fun e w' => e = .returned (.tuple #[.int .u32 (r : Nat), .int .i64 0]) ∧ w = w' := by
  have HR := Lib.hid (show IntKind.i16.wrap (a : Int) % 4294967296 = (r : Int) from by rw [wrap_i16]; unfold sex16 at h; split at h <;> omega)
  clear h
  go_enter Try.func20, Try.ntmps20
  go_wp2
  go_ret2
  exact ⟨ret_pair HR.out, rfl⟩

theorem un_38 (a r : Nat) (ha : a ≤ 4294967295) (h : (4294967296 - a) % 4294967296 = r) (w : World) :
    Calls Try.prog 20 #[.int .u8 38, .int .u32 (a : Int)] w fun e w' => e = .returned (.tuple #[.int .u32 (r : Nat), .int .i64 0]) ∧ w = w' := by
  have HR := Lib.hid (show -(a : Int) % 4294967296 = (r : Int) from by omega)
  clear h
  go_enter Try.func20, Try.ntmps20
  go_wp2
  go_ret2
  exact ⟨ret_pair HR.out, rfl⟩

theorem un_49 (a r : Nat) (ha : a ≤ 4294967295) (h : 4294967295 - a = r) (w : World) :
    Calls Try.prog 20 #[.int .u8 49, .int .u32 (a : Int)] w fun e w' => e = .returned (.tuple #[.int .u32 (r : Nat), .int .i64 0]) ∧ w = w' := by
  have HR := Lib.hid (show bits .xor .u32 IntKind.u32.max (a : Int) = (r : Int) from by rw [not_bits a ha, h])
  clear h
  go_enter Try.func20, Try.ntmps20
  go_wp2
  go_ret2
  exact ⟨ret_pair HR.out, rfl⟩

theorem un_53 (a r : Nat) (ha : a ≤ 4294967295) (h : turnW a = r) (w : World) :
    Calls Try.prog 20 #[.int .u8 53, .int .u32 (a : Int)] w fun e w' => e = .returned (.tuple #[.int .u32 (r : Nat), .int .i64 0]) ∧ w = w' := by
  subst h
  have HC := Lib.hid (fun W => Turned_any a ha W)
  clear ha
  go_enter Try.func20, Try.ntmps20
  go_wp2_with fail
  refine (HC.out _).mono ?_
  rintro e w' ⟨rfl, rfl⟩
  go_wp2
  go_ret2
  exact ⟨rfl, rfl⟩

theorem un_58 (a r : Nat) (ha : a ≤ 4294967295) (h : ofW (wrap32 (a : Int)) = r) (w : World) :
    Calls Try.prog 20 #[.int .u8 58, .int .u32 (a : Int)] w fun e w' => e = .returned (.tuple #[.int .u32 (r : Nat), .int .i64 0]) ∧ w = w' := by
  subst h
  have HC := Lib.hid (fun W => Of_any (wrap32 (a : Int)) W)
  clear ha
  go_enter Try.func20, Try.ntmps20
  go_wp2_with fail
  refine (HC.out _).mono ?_
  rintro e w' ⟨rfl, rfl⟩
  go_wp2
  go_ret2
  exact ⟨rfl, rfl⟩

theorem un_59 (a r : Nat) (ha : a ≤ 4294967295) (h : towD (single.read a) % 4294967296 = (r : Int)) (w : World) :
    Calls Try.prog 20 #[.int .u8 59, .int .u32 (a : Int)] w fun e w' => e = .returned (.tuple #[.int .u32 (r : Nat), .int .i64 0]) ∧ w = w' := by
  have HC := Lib.hid (fun W => Toward_any (a : Int) W (fun s m p hd => can_small a s m p (by rwa [Int.toNat_natCast] at hd)))
  simp only [Int.toNat_natCast] at HC
  have HR := Lib.hid h
  clear h ha
  go_enter Try.func20, Try.ntmps20
  go_wp2_with fail
  refine (HC.out _).mono ?_
  rintro e w' ⟨rfl, rfl⟩
  go_wp2
  go_ret2
  exact ⟨ret_pair HR.out, rfl⟩

theorem un_other (op : Int) (a : Int) (h36 : ((op : Int) == 36) = false) (h37 : ((op : Int) == 37) = false) (h38 : ((op : Int) == 38) = false) (h49 : ((op : Int) == 49) = false) (h53 : ((op : Int) == 53) = false) (h58 : ((op : Int) == 58) = false) (h59 : ((op : Int) == 59) = false) (w : World) :
    Calls Try.prog 20 #[.int .u8 op, .int .u32 a] w fun e w' => e = .returned (.tuple #[.int .u32 0, .int .i64 61]) ∧ w = w' := by
  go_enter Try.func20, Try.ntmps20
  go_wp2
  go_ret2
  exact ⟨rfl, rfl⟩

theorem one_of (op a r x : Int) (h : ∀ W, Calls Try.prog 20 #[.int .u8 op, .int .u32 a] W fun e w' => e = .returned (.tuple #[.int .u32 r, .int .i64 x]) ∧ W = w') (w : World) :
    Calls Try.prog 28 #[.int .u8 op, .int .u32 a] w fun e w' => e = .returned (.int .u32 r) ∧ w = w' := by
  have HC := Lib.hid h
  clear h
  go_enter Try.func28, Try.ntmps28
  go_wp2_with fail
  refine (HC.out _).mono ?_
  rintro e w' ⟨rfl, rfl⟩
  go_wp2
  go_ret
  exact ⟨rfl, rfl⟩
end Go.Proofs.Ytfgbjaejkfkmmaa
