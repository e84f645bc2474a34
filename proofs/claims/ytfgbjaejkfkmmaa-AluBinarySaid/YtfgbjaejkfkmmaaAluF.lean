/- The reference's power, floor, bits, Binary; AluBinary at each operation (printed by programs of ours: gen_aluc, gen_alud, gen_alube, joined). -/
import Derived.Test.YtfgbjaejkfkmmaaAluR
import Derived.Test.YtfgbjaejkfkmmaaRatioP
import Derived.Test.YtfgbjaejkfkmmaaSum3
import Derived.Test.YtfgbjaejkfkmmaaRefProducts
import Derived.Test.YtfgbjaejkfkmmaaAluT
namespace Go.Proofs.Ytfgbjaejkfkmmaa
open Go.RowKit Ieee
set_option linter.unusedVariables false

theorem power_any (n p : Nat) (hn : n ≤ 32) (hp : 2 ^ n = p) (w : World) : Calls Try.prog 47 #[.int .u32 (n : Int)] w fun e w' => e = .returned (.int .i64 (p : Nat)) ∧ w = w' := by
  have HP := Lib.hid hp
  clear hp
  go_enter Try.func47, Try.ntmps47
  go_wp2
  go_loop [3, 4] (fun x i => ∃ k P : Nat, k ≤ n ∧ x = .int .i64 (P : Int) ∧ i = .int .u32 (k : Int) ∧ 2 ^ k = P) (fun _ i => n - (intOf i).toNat)
  case atStart => exact ⟨0, 1, by omega, rfl, rfl, rfl⟩
  case round =>
    obtain ⟨k, P, hk, rfl, rfl, hP⟩ := hrel
    have HPP := Lib.hid hP
    have hb : P ≤ 4294967296 := by rw [← hP]; exact Nat.pow_le_pow_right (by omega) (show k ≤ 32 by omega)
    clear hP
    by_cases hlt : k < n
    · have hd : decide ((k : Int) < (n : Int)) = true := decide_eq_true (by omega)
      have hx : IntKind.i64.wrap ((P : Int) * 2) = (P : Int) * 2 := IntWalk.i64_in _ (by omega)
      have hy : IntKind.u32.wrap ((k : Int) + 1) = (k : Int) + 1 := by rw [IntKind.wrap_u32]; omega
      go_wp2
      go_round
      case rel => exact ⟨k + 1, P * 2, by omega, by go_num, by go_num, by rw [Nat.pow_succ, HPP.out]⟩
      case measure => simp [intOf]; omega
    · have hd : decide ((k : Int) < (n : Int)) = false := decide_eq_false (by omega)
      have HE := Lib.hid (show P = p by rw [← HPP.out, ← HP.out, show k = n by omega])
      go_wp2
      go_ret
      exact ⟨ret_int (by rw [HE.out]), rfl⟩

theorem floor_any (x : Int) (p : Nat) (hp : 0 < p) (h0 : -2147483648 ≤ x) (h1 : x ≤ 2147483647) (hp2 : p ≤ 4294967296) (r : Int) (hr : x / (p : Int) = r) (w : World) :
    Calls Try.prog 48 #[.int .i64 x, .int .i64 (p : Int)] w fun e w' => e = .returned (.int .i64 r) ∧ w = w' := by
  have hz : ((p : Int) == 0) = false := by rw [beq_eq_false_iff_ne]; omega
  have hz2 : ¬ (p : Int) = 0 := by omega
  have hq := Int.tdiv_eq_ediv (a := x) (b := (p : Int))
  have hm := Int.tmod_eq_emod (a := x) (b := (p : Int))
  have hpos : 0 ≤ x % (p : Int) := Int.emod_nonneg _ (by omega)
  have hlt : x % (p : Int) < p := Int.emod_lt_of_pos _ (by omega)
  have hx := Int.emod_add_mul_ediv x (p : Int)
  have hrb : -2147483648 ≤ r ∧ r ≤ 2147483647 := by
    rw [← hr]
    constructor
    · exact Int.le_ediv_of_mul_le (by omega) (by omega)
    · exact Int.le_of_lt_add_one (Int.ediv_lt_of_lt_mul (by omega) (by omega))
  have hs : (p : Int).sign = 1 := Int.sign_eq_one_of_pos (by omega)
  rw [hs] at hq
  obtain ⟨q, hqq⟩ : ∃ q, x.tdiv (p : Int) = q := ⟨_, rfl⟩
  obtain ⟨m, hmm⟩ : ∃ q, x.tmod (p : Int) = q := ⟨_, rfl⟩
  rw [hqq] at hq
  rw [hmm] at hm
  by_cases hc : 0 ≤ x ∨ (p : Int) ∣ x
  · rw [if_pos hc] at hq hm
    have hqr : q = r := by omega
    have ht : decide (m < 0) = false := decide_eq_false (by omega)
    have HR := Lib.hid hqr
    have hw : IntKind.i64.wrap q = q := IntWalk.i64_in _ (by omega)
    clear hq hm hpos hlt hx hc hr hs hqr hp
    go_enter Try.func48, Try.ntmps48
    go_wp2
    go_ret
    exact ⟨ret_int HR.out, rfl⟩
  · rw [if_neg hc] at hq hm
    have hne : ¬ x % (p : Int) = 0 := fun h => hc (.inr (Int.dvd_of_emod_eq_zero h))
    have ht : decide (m < 0) = true := decide_eq_true (by have : ((p : Int).natAbs : Int) = p := by omega
                                                          omega)
    have hqr : q - 1 = r := by omega
    have HR := Lib.hid hqr
    have hw : IntKind.i64.wrap q = q := IntWalk.i64_in _ (by omega)
    have hw2 : IntKind.i64.wrap (q - 1) = q - 1 := IntWalk.i64_in _ (by omega)
    clear hq hm hpos hlt hx hc hr hs hqr hp hne
    go_enter Try.func48, Try.ntmps48
    go_wp2
    go_ret
    exact ⟨ret_int HR.out, rfl⟩

theorem bit_step (x i : Nat) : x % 2 ^ (i + 1) = x % 2 ^ i + 2 ^ i * (x / 2 ^ i % 2) := by
  rw [Nat.pow_succ, Nat.mod_mul]
theorem bit_val (x i : Nat) : x / 2 ^ i % 2 = (x.testBit i).toNat := by
  rw [Nat.testBit_eq_decide_div_mod_eq]
  have := Nat.mod_lt (x / 2 ^ i) (show 0 < 2 by omega)
  by_cases h : x / 2 ^ i % 2 = 1
  · rw [h]; rfl
  · rw [show x / 2 ^ i % 2 = 0 by omega]; rfl

theorem bit_and (a b i X Y : Nat) (hX : a / 2 ^ i % 2 = X) (hY : b / 2 ^ i % 2 = Y) : (a &&& b) / 2 ^ i % 2 = if (X = 1 ∧ Y = 1) then 1 else 0 := by
  rw [bit_val] at *
  rw [Nat.testBit_and]
  subst hX hY
  cases a.testBit i <;> cases b.testBit i <;> rfl

set_option maxHeartbeats 1000000 in
theorem bits_46 (a b r : Nat) (ha : a ≤ 4294967295) (hb : b ≤ 4294967295) (hr : a &&& b = r) (w : World) : Calls Try.prog 46 #[.int .u8 46, .int .u32 (a : Int), .int .u32 (b : Int)] w fun e w' => e = .returned (.int .u32 (r : Nat)) ∧ w = w' := by
  have hrl : r ≤ 4294967295 := by
    rw [← hr]
    refine Nat.le_of_lt_succ ?_
    exact Nat.and_lt_two_pow _ (n := 32) (by omega)
  have HR := Lib.hid hr
  have HS := Lib.hid (fun i X Y hX hY => (show r % 2 ^ (i + 1) = r % 2 ^ i + 2 ^ i * (if (X = 1 ∧ Y = 1) then 1 else 0) from by rw [bit_step r i, show r / 2 ^ i % 2 = (if (X = 1 ∧ Y = 1) then 1 else 0) from by rw [← hr]; exact bit_and a b i X Y hX hY]))
  have e1 : IntKind.i64.wrap (a : Int) = (a : Int) := IntWalk.i64_in _ (by omega)
  have e2 : IntKind.i64.wrap (b : Int) = (b : Int) := IntWalk.i64_in _ (by omega)
  clear hr
  go_enter Try.func46, Try.ntmps46
  go_wp2
  go_loop [7, 8] (fun x i => ∃ k O : Nat, k ≤ 32 ∧ O ≤ r ∧ x = .int .i64 (O : Int) ∧ i = .int .u32 (k : Int) ∧ r % 2 ^ k = O) (fun _ i => 32 - (intOf i).toNat)
  case atStart => exact ⟨0, 0, by omega, by omega, rfl, rfl, by rw [Nat.pow_zero]; exact Nat.mod_one r⟩
  case round =>
    obtain ⟨k, O, hk, hO, rfl, rfl, hM⟩ := hrel
    have HM := Lib.hid hM
    clear hM
    by_cases hlt : k < 32
    · have hd : decide ((k : Int) < 32) = true := decide_eq_true (by omega)
      obtain ⟨P, hP⟩ : ∃ P, 2 ^ k = P := ⟨_, rfl⟩
      have hP1 : P ≤ 2147483648 := by rw [← hP]; exact Nat.pow_le_pow_right (by omega) (show k ≤ 31 by omega)
      have hP0 : 0 < P := by rw [← hP]; exact Nat.two_pow_pos _
      obtain ⟨X, hX⟩ : ∃ X, a / 2 ^ k % 2 = X := ⟨_, rfl⟩
      obtain ⟨Y, hY⟩ : ∃ Y, b / 2 ^ k % 2 = Y := ⟨_, rfl⟩
      have hX2 : X < 2 := by rw [← hX]; exact Nat.mod_lt _ (by omega)
      have hY2 : Y < 2 := by rw [← hY]; exact Nat.mod_lt _ (by omega)
      have hs := HS.out k X Y hX hY
      have hOn : r % 2 ^ (k + 1) ≤ r := Nat.mod_le _ _
      rw [HM.out, hP] at hs
      rw [hP] at hX hY
      obtain ⟨A, hA⟩ : ∃ A, a / P = A := ⟨_, rfl⟩
      obtain ⟨B, hB⟩ : ∃ B, b / P = B := ⟨_, rfl⟩
      rw [hA] at hX
      rw [hB] at hY
      have c1 := Lib.hid (fun W => power_any k P (by omega) hP W)
      have hz : ((P : Int) == 0) = false := by rw [beq_eq_false_iff_ne]; omega
      have hz2 : ¬ (P : Int) = 0 := by omega
      have tA : (a : Int).tdiv (P : Int) = (A : Int) := by rw [← hA]; rfl
      have tB : (b : Int).tdiv (P : Int) = (B : Int) := by rw [← hB]; rfl
      have hAl : A ≤ 4294967295 := by rw [← hA]; exact Nat.le_trans (Nat.div_le_self _ _) ha
      have hBl : B ≤ 4294967295 := by rw [← hB]; exact Nat.le_trans (Nat.div_le_self _ _) hb
      have tX : (A : Int).tmod 2 = (X : Int) := by rw [← hX]; rfl
      have tY : (B : Int).tmod 2 = (Y : Int) := by rw [← hY]; rfl
      have fA : (a : Int) / (P : Int) = (A : Int) := by rw [← hA]; rfl
      have fB : (b : Int) / (P : Int) = (B : Int) := by rw [← hB]; rfl
      have fX : (A : Int) % 2 = (X : Int) := by rw [← hX]; rfl
      have fY : (B : Int) % 2 = (Y : Int) := by rw [← hY]; rfl
      have wA : IntKind.i64.wrap (A : Int) = (A : Int) := IntWalk.i64_in _ (by omega)
      have wB : IntKind.i64.wrap (B : Int) = (B : Int) := IntWalk.i64_in _ (by omega)
      have wO : IntKind.i64.wrap ((O : Int) + (P : Int)) = (O : Int) + (P : Int) := IntWalk.i64_in _ (by omega)
      have wk : IntKind.u32.wrap ((k : Int) + 1) = (k : Int) + 1 := by rw [IntKind.wrap_u32]; omega
      have HS2 := Lib.hid hs
      have HON := Lib.hid hOn
      clear hs hOn hP hX hY hA hB
      have hXY : (X = 0 ∨ X = 1) ∧ (Y = 0 ∨ Y = 1) := by omega
      obtain ⟨rfl | rfl, rfl | rfl⟩ := hXY
      all_goals
        go_wp2_with (go_at_call 47; refine (c1.out _).mono ?_; rintro e w' ⟨rfl, rfl⟩)
        go_round
        case rel => exact ⟨k + 1, r % 2 ^ (k + 1), by omega, HON.out, by rw [HS2.out]; first | done | (simp; done) | (simp; omega) | go_num, by go_num, rfl⟩
        case measure => simp [intOf]; omega
    · have hd : decide ((k : Int) < 32) = false := decide_eq_false (by omega)
      have hk2 : k = 32 := by omega
      subst hk2
      have hO2 : O = r := by rw [← HM.out]; exact Nat.mod_eq_of_lt (by omega)
      have HO2 := Lib.hid hO2
      have e3 : IntKind.u32.wrap (O : Int) = (O : Int) := by rw [IntKind.wrap_u32]; omega
      clear hO2
      go_wp2
      go_ret
      exact ⟨ret_int (by rw [← HO2.out]; try omega), rfl⟩

theorem bit_or (a b i X Y : Nat) (hX : a / 2 ^ i % 2 = X) (hY : b / 2 ^ i % 2 = Y) : (a ||| b) / 2 ^ i % 2 = if (X = 1 ∨ Y = 1) then 1 else 0 := by
  rw [bit_val] at *
  rw [Nat.testBit_or]
  subst hX hY
  cases a.testBit i <;> cases b.testBit i <;> rfl

set_option maxHeartbeats 1000000 in
theorem bits_47 (a b r : Nat) (ha : a ≤ 4294967295) (hb : b ≤ 4294967295) (hr : a ||| b = r) (w : World) : Calls Try.prog 46 #[.int .u8 47, .int .u32 (a : Int), .int .u32 (b : Int)] w fun e w' => e = .returned (.int .u32 (r : Nat)) ∧ w = w' := by
  have hrl : r ≤ 4294967295 := by
    rw [← hr]
    refine Nat.le_of_lt_succ ?_
    exact Nat.or_lt_two_pow (n := 32) (by omega) (by omega)
  have HR := Lib.hid hr
  have HS := Lib.hid (fun i X Y hX hY => (show r % 2 ^ (i + 1) = r % 2 ^ i + 2 ^ i * (if (X = 1 ∨ Y = 1) then 1 else 0) from by rw [bit_step r i, show r / 2 ^ i % 2 = (if (X = 1 ∨ Y = 1) then 1 else 0) from by rw [← hr]; exact bit_or a b i X Y hX hY]))
  have e1 : IntKind.i64.wrap (a : Int) = (a : Int) := IntWalk.i64_in _ (by omega)
  have e2 : IntKind.i64.wrap (b : Int) = (b : Int) := IntWalk.i64_in _ (by omega)
  clear hr
  go_enter Try.func46, Try.ntmps46
  go_wp2
  go_loop [7, 8] (fun x i => ∃ k O : Nat, k ≤ 32 ∧ O ≤ r ∧ x = .int .i64 (O : Int) ∧ i = .int .u32 (k : Int) ∧ r % 2 ^ k = O) (fun _ i => 32 - (intOf i).toNat)
  case atStart => exact ⟨0, 0, by omega, by omega, rfl, rfl, by rw [Nat.pow_zero]; exact Nat.mod_one r⟩
  case round =>
    obtain ⟨k, O, hk, hO, rfl, rfl, hM⟩ := hrel
    have HM := Lib.hid hM
    clear hM
    by_cases hlt : k < 32
    · have hd : decide ((k : Int) < 32) = true := decide_eq_true (by omega)
      obtain ⟨P, hP⟩ : ∃ P, 2 ^ k = P := ⟨_, rfl⟩
      have hP1 : P ≤ 2147483648 := by rw [← hP]; exact Nat.pow_le_pow_right (by omega) (show k ≤ 31 by omega)
      have hP0 : 0 < P := by rw [← hP]; exact Nat.two_pow_pos _
      obtain ⟨X, hX⟩ : ∃ X, a / 2 ^ k % 2 = X := ⟨_, rfl⟩
      obtain ⟨Y, hY⟩ : ∃ Y, b / 2 ^ k % 2 = Y := ⟨_, rfl⟩
      have hX2 : X < 2 := by rw [← hX]; exact Nat.mod_lt _ (by omega)
      have hY2 : Y < 2 := by rw [← hY]; exact Nat.mod_lt _ (by omega)
      have hs := HS.out k X Y hX hY
      have hOn : r % 2 ^ (k + 1) ≤ r := Nat.mod_le _ _
      rw [HM.out, hP] at hs
      rw [hP] at hX hY
      obtain ⟨A, hA⟩ : ∃ A, a / P = A := ⟨_, rfl⟩
      obtain ⟨B, hB⟩ : ∃ B, b / P = B := ⟨_, rfl⟩
      rw [hA] at hX
      rw [hB] at hY
      have c1 := Lib.hid (fun W => power_any k P (by omega) hP W)
      have hz : ((P : Int) == 0) = false := by rw [beq_eq_false_iff_ne]; omega
      have hz2 : ¬ (P : Int) = 0 := by omega
      have tA : (a : Int).tdiv (P : Int) = (A : Int) := by rw [← hA]; rfl
      have tB : (b : Int).tdiv (P : Int) = (B : Int) := by rw [← hB]; rfl
      have hAl : A ≤ 4294967295 := by rw [← hA]; exact Nat.le_trans (Nat.div_le_self _ _) ha
      have hBl : B ≤ 4294967295 := by rw [← hB]; exact Nat.le_trans (Nat.div_le_self _ _) hb
      have tX : (A : Int).tmod 2 = (X : Int) := by rw [← hX]; rfl
      have tY : (B : Int).tmod 2 = (Y : Int) := by rw [← hY]; rfl
      have fA : (a : Int) / (P : Int) = (A : Int) := by rw [← hA]; rfl
      have fB : (b : Int) / (P : Int) = (B : Int) := by rw [← hB]; rfl
      have fX : (A : Int) % 2 = (X : Int) := by rw [← hX]; rfl
      have fY : (B : Int) % 2 = (Y : Int) := by rw [← hY]; rfl
      have wA : IntKind.i64.wrap (A : Int) = (A : Int) := IntWalk.i64_in _ (by omega)
      have wB : IntKind.i64.wrap (B : Int) = (B : Int) := IntWalk.i64_in _ (by omega)
      have wO : IntKind.i64.wrap ((O : Int) + (P : Int)) = (O : Int) + (P : Int) := IntWalk.i64_in _ (by omega)
      have wk : IntKind.u32.wrap ((k : Int) + 1) = (k : Int) + 1 := by rw [IntKind.wrap_u32]; omega
      have HS2 := Lib.hid hs
      have HON := Lib.hid hOn
      clear hs hOn hP hX hY hA hB
      have hXY : (X = 0 ∨ X = 1) ∧ (Y = 0 ∨ Y = 1) := by omega
      obtain ⟨rfl | rfl, rfl | rfl⟩ := hXY
      all_goals
        go_wp2_with (go_at_call 47; refine (c1.out _).mono ?_; rintro e w' ⟨rfl, rfl⟩)
        go_round
        case rel => exact ⟨k + 1, r % 2 ^ (k + 1), by omega, HON.out, by rw [HS2.out]; first | done | (simp; done) | (simp; omega) | go_num, by go_num, rfl⟩
        case measure => simp [intOf]; omega
    · have hd : decide ((k : Int) < 32) = false := decide_eq_false (by omega)
      have hk2 : k = 32 := by omega
      subst hk2
      have hO2 : O = r := by rw [← HM.out]; exact Nat.mod_eq_of_lt (by omega)
      have HO2 := Lib.hid hO2
      have e3 : IntKind.u32.wrap (O : Int) = (O : Int) := by rw [IntKind.wrap_u32]; omega
      clear hO2
      go_wp2
      go_ret
      exact ⟨ret_int (by rw [← HO2.out]; try omega), rfl⟩

theorem bit_xor (a b i X Y : Nat) (hX : a / 2 ^ i % 2 = X) (hY : b / 2 ^ i % 2 = Y) : (a ^^^ b) / 2 ^ i % 2 = if (X ≠ Y) then 1 else 0 := by
  rw [bit_val] at *
  rw [Nat.testBit_xor]
  subst hX hY
  cases a.testBit i <;> cases b.testBit i <;> rfl

set_option maxHeartbeats 1000000 in
theorem bits_48 (a b r : Nat) (ha : a ≤ 4294967295) (hb : b ≤ 4294967295) (hr : a ^^^ b = r) (w : World) : Calls Try.prog 46 #[.int .u8 48, .int .u32 (a : Int), .int .u32 (b : Int)] w fun e w' => e = .returned (.int .u32 (r : Nat)) ∧ w = w' := by
  have hrl : r ≤ 4294967295 := by
    rw [← hr]
    refine Nat.le_of_lt_succ ?_
    exact Nat.xor_lt_two_pow (n := 32) (by omega) (by omega)
  have HR := Lib.hid hr
  have HS := Lib.hid (fun i X Y hX hY => (show r % 2 ^ (i + 1) = r % 2 ^ i + 2 ^ i * (if (X ≠ Y) then 1 else 0) from by rw [bit_step r i, show r / 2 ^ i % 2 = (if (X ≠ Y) then 1 else 0) from by rw [← hr]; exact bit_xor a b i X Y hX hY]))
  have e1 : IntKind.i64.wrap (a : Int) = (a : Int) := IntWalk.i64_in _ (by omega)
  have e2 : IntKind.i64.wrap (b : Int) = (b : Int) := IntWalk.i64_in _ (by omega)
  clear hr
  go_enter Try.func46, Try.ntmps46
  go_wp2
  go_loop [7, 8] (fun x i => ∃ k O : Nat, k ≤ 32 ∧ O ≤ r ∧ x = .int .i64 (O : Int) ∧ i = .int .u32 (k : Int) ∧ r % 2 ^ k = O) (fun _ i => 32 - (intOf i).toNat)
  case atStart => exact ⟨0, 0, by omega, by omega, rfl, rfl, by rw [Nat.pow_zero]; exact Nat.mod_one r⟩
  case round =>
    obtain ⟨k, O, hk, hO, rfl, rfl, hM⟩ := hrel
    have HM := Lib.hid hM
    clear hM
    by_cases hlt : k < 32
    · have hd : decide ((k : Int) < 32) = true := decide_eq_true (by omega)
      obtain ⟨P, hP⟩ : ∃ P, 2 ^ k = P := ⟨_, rfl⟩
      have hP1 : P ≤ 2147483648 := by rw [← hP]; exact Nat.pow_le_pow_right (by omega) (show k ≤ 31 by omega)
      have hP0 : 0 < P := by rw [← hP]; exact Nat.two_pow_pos _
      obtain ⟨X, hX⟩ : ∃ X, a / 2 ^ k % 2 = X := ⟨_, rfl⟩
      obtain ⟨Y, hY⟩ : ∃ Y, b / 2 ^ k % 2 = Y := ⟨_, rfl⟩
      have hX2 : X < 2 := by rw [← hX]; exact Nat.mod_lt _ (by omega)
      have hY2 : Y < 2 := by rw [← hY]; exact Nat.mod_lt _ (by omega)
      have hs := HS.out k X Y hX hY
      have hOn : r % 2 ^ (k + 1) ≤ r := Nat.mod_le _ _
      rw [HM.out, hP] at hs
      rw [hP] at hX hY
      obtain ⟨A, hA⟩ : ∃ A, a / P = A := ⟨_, rfl⟩
      obtain ⟨B, hB⟩ : ∃ B, b / P = B := ⟨_, rfl⟩
      rw [hA] at hX
      rw [hB] at hY
      have c1 := Lib.hid (fun W => power_any k P (by omega) hP W)
      have hz : ((P : Int) == 0) = false := by rw [beq_eq_false_iff_ne]; omega
      have hz2 : ¬ (P : Int) = 0 := by omega
      have tA : (a : Int).tdiv (P : Int) = (A : Int) := by rw [← hA]; rfl
      have tB : (b : Int).tdiv (P : Int) = (B : Int) := by rw [← hB]; rfl
      have hAl : A ≤ 4294967295 := by rw [← hA]; exact Nat.le_trans (Nat.div_le_self _ _) ha
      have hBl : B ≤ 4294967295 := by rw [← hB]; exact Nat.le_trans (Nat.div_le_self _ _) hb
      have tX : (A : Int).tmod 2 = (X : Int) := by rw [← hX]; rfl
      have tY : (B : Int).tmod 2 = (Y : Int) := by rw [← hY]; rfl
      have fA : (a : Int) / (P : Int) = (A : Int) := by rw [← hA]; rfl
      have fB : (b : Int) / (P : Int) = (B : Int) := by rw [← hB]; rfl
      have fX : (A : Int) % 2 = (X : Int) := by rw [← hX]; rfl
      have fY : (B : Int) % 2 = (Y : Int) := by rw [← hY]; rfl
      have wA : IntKind.i64.wrap (A : Int) = (A : Int) := IntWalk.i64_in _ (by omega)
      have wB : IntKind.i64.wrap (B : Int) = (B : Int) := IntWalk.i64_in _ (by omega)
      have wO : IntKind.i64.wrap ((O : Int) + (P : Int)) = (O : Int) + (P : Int) := IntWalk.i64_in _ (by omega)
      have wk : IntKind.u32.wrap ((k : Int) + 1) = (k : Int) + 1 := by rw [IntKind.wrap_u32]; omega
      have HS2 := Lib.hid hs
      have HON := Lib.hid hOn
      clear hs hOn hP hX hY hA hB
      have hXY : (X = 0 ∨ X = 1) ∧ (Y = 0 ∨ Y = 1) := by omega
      obtain ⟨rfl | rfl, rfl | rfl⟩ := hXY
      all_goals
        go_wp2_with (go_at_call 47; refine (c1.out _).mono ?_; rintro e w' ⟨rfl, rfl⟩)
        go_round
        case rel => exact ⟨k + 1, r % 2 ^ (k + 1), by omega, HON.out, by rw [HS2.out]; first | done | (simp; done) | (simp; omega) | go_num, by go_num, rfl⟩
        case measure => simp [intOf]; omega
    · have hd : decide ((k : Int) < 32) = false := decide_eq_false (by omega)
      have hk2 : k = 32 := by omega
      subst hk2
      have hO2 : O = r := by rw [← HM.out]; exact Nat.mod_eq_of_lt (by omega)
      have HO2 := Lib.hid hO2
      have e3 : IntKind.u32.wrap (O : Int) = (O : Int) := by rw [IntKind.wrap_u32]; omega
      clear hO2
      go_wp2
      go_ret
      exact ⟨ret_int (by rw [← HO2.out]; try omega), rfl⟩

theorem ret_pair2 {w : World} {x y e : Int} (h : x = y) : Ending.returned (.tuple #[.int .u32 x, .int .i64 e]) = .returned (.tuple #[.int .u32 y, .int .i64 e]) := by rw [h]

set_option maxHeartbeats 1000000 in
theorem rbin_39 (a b r : Nat) (ha : a ≤ 4294967295) (hb : b ≤ 4294967295)  (h : (a + b) % 4294967296 = r) (w : World) :
    Calls Try.prog 24 #[.int .u8 39, .int .u32 (a : Int), .int .u32 (b : Int)] w (Ret w (.tuple #[.int .u32 (r : Nat), .int .i64 0])) := by
  have e1 : IntKind.i64.wrap (a : Int) = (a : Int) := IntWalk.i64_in _ (by omega)
  have e2 : IntKind.i64.wrap (b : Int) = (b : Int) := IntWalk.i64_in _ (by omega)
  have e3 : IntKind.i64.wrap ((a : Int) + b) = (a : Int) + b := IntWalk.i64_in _ (by omega)
  have c1 := Lib.hid (fun W => wrapped_is ((a : Int) + b) r (by omega) (by omega) (by omega) W)
  clear h
  go_enter Try.func24, Try.ntmps24
  go_wp2_with fail
  refine (c1.out _).mono ?_
  rintro e w' ⟨rfl, rfl⟩
  go_wp2
  go_ret2
  exact ⟨rfl, Below.refl _ _⟩

set_option maxHeartbeats 1000000 in
theorem rbin_40 (a b r : Nat) (ha : a ≤ 4294967295) (hb : b ≤ 4294967295)  (h : (a + 4294967296 - b) % 4294967296 = r) (w : World) :
    Calls Try.prog 24 #[.int .u8 40, .int .u32 (a : Int), .int .u32 (b : Int)] w (Ret w (.tuple #[.int .u32 (r : Nat), .int .i64 0])) := by
  have e1 : IntKind.i64.wrap (a : Int) = (a : Int) := IntWalk.i64_in _ (by omega)
  have e2 : IntKind.i64.wrap (b : Int) = (b : Int) := IntWalk.i64_in _ (by omega)
  have e3 : IntKind.i64.wrap ((a : Int) - b) = (a : Int) - b := IntWalk.i64_in _ (by omega)
  have c1 := Lib.hid (fun W => wrapped_is ((a : Int) - b) r (by omega) (by omega) (by omega) W)
  clear h
  go_enter Try.func24, Try.ntmps24
  go_wp2_with fail
  refine (c1.out _).mono ?_
  rintro e w' ⟨rfl, rfl⟩
  go_wp2
  go_ret2
  exact ⟨rfl, Below.refl _ _⟩

set_option maxHeartbeats 1000000 in
theorem rbin_41 (a b r : Nat) (ha : a ≤ 4294967295) (hb : b ≤ 4294967295)  (h : a * b % 4294967296 = r) (w : World) :
    Calls Try.prog 24 #[.int .u8 41, .int .u32 (a : Int), .int .u32 (b : Int)] w (Ret w (.tuple #[.int .u32 (r : Nat), .int .i64 0])) := by
  obtain ⟨L, hL⟩ : ∃ L, b % 65536 = L := ⟨_, rfl⟩
  obtain ⟨H, hH⟩ : ∃ H, b / 65536 = H := ⟨_, rfl⟩
  have hLl : L < 65536 := by omega
  have hHl : H < 65536 := by omega
  obtain ⟨x, hx⟩ : ∃ x, a * L = x := ⟨_, rfl⟩
  obtain ⟨y, hy⟩ : ∃ x, a * H = x := ⟨_, rfl⟩
  have hxl : x ≤ 4294967295 * 65535 := by rw [← hx]; exact Nat.mul_le_mul ha (by omega)
  have hyl : y ≤ 4294967295 * 65535 := by rw [← hy]; exact Nat.mul_le_mul ha (by omega)
  obtain ⟨X, hX⟩ : ∃ X, x % 4294967296 = X := ⟨_, rfl⟩
  obtain ⟨Y, hY⟩ : ∃ X, y % 4294967296 = X := ⟨_, rfl⟩
  have hXl : X < 4294967296 := by omega
  have hYl : Y < 4294967296 := by omega
  have hr : (X + Y * 65536) % 4294967296 = r := by
    have hb2 : b = H * 65536 + L := by omega
    have : a * b = y * 65536 + x := by rw [hb2, Nat.mul_add, ← Nat.mul_assoc, hx, hy]
    rw [← h, this]
    omega
  have e1 : IntKind.i64.wrap (a : Int) = (a : Int) := IntWalk.i64_in _ (by omega)
  have e2 : IntKind.i64.wrap (L : Int) = (L : Int) := IntWalk.i64_in _ (by omega)
  have e3 : IntKind.i64.wrap (H : Int) = (H : Int) := IntWalk.i64_in _ (by omega)
  have m1 : (b : Int) % 65536 = (L : Int) := by omega
  have m2 : (b : Int) / 65536 = (H : Int) := by omega
  have m3 : (b : Int).tmod 65536 = (L : Int) := by rw [← hL]; rfl
  have m4 : (b : Int).tdiv 65536 = (H : Int) := by rw [← hH]; rfl
  have p1 : (a : Int) * (L : Int) = (x : Int) := by rw [← hx]; exact (Int.natCast_mul a L).symm
  have p2 : (a : Int) * (H : Int) = (y : Int) := by rw [← hy]; exact (Int.natCast_mul a H).symm
  have w1 : IntKind.i64.wrap (x : Int) = (x : Int) := IntWalk.i64_in _ (by omega)
  have w2 : IntKind.i64.wrap (y : Int) = (y : Int) := IntWalk.i64_in _ (by omega)
  have q1 : (x : Int).tmod 4294967296 = (X : Int) := by rw [← hX]; rfl
  have q2 : (y : Int).tmod 4294967296 = (Y : Int) := by rw [← hY]; rfl
  have q3 : (x : Int) % 4294967296 = (X : Int) := by omega
  have q4 : (y : Int) % 4294967296 = (Y : Int) := by omega
  have w3 : IntKind.i64.wrap ((Y : Int) * 65536) = (Y : Int) * 65536 := IntWalk.i64_in _ (by omega)
  have w4 : IntKind.i64.wrap ((X : Int) + (Y : Int) * 65536) = (X : Int) + (Y : Int) * 65536 := IntWalk.i64_in _ (by omega)
  have c1 := Lib.hid (fun W => wrapped_is ((X : Int) + (Y : Int) * 65536) r (by omega) (by omega) (by omega) W)
  clear h hr hX hY hx hy hL hH
  go_enter Try.func24, Try.ntmps24
  go_wp2_with fail
  refine (c1.out _).mono ?_
  rintro e w' ⟨rfl, rfl⟩
  go_wp2
  go_ret2
  exact ⟨rfl, Below.refl _ _⟩

theorem div_nought (op : Int) (a : Nat) (w : World) : Calls Try.prog 45 #[.int .u8 op, .int .u32 (a : Int), .int .u32 0] w fun e w' => e = .returned (.tuple #[.int .u32 0, .int .i64 60]) ∧ w = w' := by
  go_enter Try.func45, Try.ntmps45
  go_wp2
  go_ret2
  exact ⟨rfl, rfl⟩

theorem div_43 (a b r : Nat) (ha : a ≤ 4294967295) (hb : b ≤ 4294967295) (hz : 0 < b) (h : a / b = r) (w : World) :
    Calls Try.prog 45 #[.int .u8 43, .int .u32 (a : Int), .int .u32 (b : Int)] w fun e w' => e = .returned (.tuple #[.int .u32 (r : Nat), .int .i64 0]) ∧ w = w' := by
  have hr : r ≤ 4294967295 := by rw [← h]; exact Nat.le_trans (Nat.div_le_self _ _) ha
  have e1 : IntKind.i64.wrap (a : Int) = (a : Int) := IntWalk.i64_in _ (by omega)
  have e2 : IntKind.i64.wrap (b : Int) = (b : Int) := IntWalk.i64_in _ (by omega)
  have z1 : ((b : Int) == 0) = false := by rw [beq_eq_false_iff_ne]; omega
  have z2 : ¬ (b : Int) = 0 := by omega
  have d1 : (a : Int).tdiv (b : Int) = (r : Int) := by rw [← h]; rfl
  have d2 : (a : Int) / (b : Int) = (r : Int) := by rw [← h]; rfl
  have d3 : IntKind.i64.wrap (r : Int) = (r : Int) := IntWalk.i64_in _ (by omega)
  have c1 := Lib.hid (fun W => wrapped_is (r : Int) r (by omega) (by omega) (by omega) W)
  clear h
  go_enter Try.func45, Try.ntmps45
  go_wp2_with fail
  refine (c1.out _).mono ?_
  rintro e w' ⟨rfl, rfl⟩
  go_wp2
  go_ret2
  exact ⟨rfl, rfl⟩

theorem div_45 (a b r : Nat) (ha : a ≤ 4294967295) (hb : b ≤ 4294967295) (hz : 0 < b) (h : a % b = r) (w : World) :
    Calls Try.prog 45 #[.int .u8 45, .int .u32 (a : Int), .int .u32 (b : Int)] w fun e w' => e = .returned (.tuple #[.int .u32 (r : Nat), .int .i64 0]) ∧ w = w' := by
  have hr : r ≤ 4294967295 := by rw [← h]; exact Nat.le_trans (Nat.mod_le _ _) ha
  have e1 : IntKind.i64.wrap (a : Int) = (a : Int) := IntWalk.i64_in _ (by omega)
  have e2 : IntKind.i64.wrap (b : Int) = (b : Int) := IntWalk.i64_in _ (by omega)
  have z1 : ((b : Int) == 0) = false := by rw [beq_eq_false_iff_ne]; omega
  have z2 : ¬ (b : Int) = 0 := by omega
  have d1 : (a : Int).tmod (b : Int) = (r : Int) := by rw [← h]; rfl
  have d2 : (a : Int) % (b : Int) = (r : Int) := by rw [← h]; rfl
  have d3 : IntKind.i64.wrap (r : Int) = (r : Int) := IntWalk.i64_in _ (by omega)
  have c1 := Lib.hid (fun W => wrapped_is (r : Int) r (by omega) (by omega) (by omega) W)
  clear h
  go_enter Try.func45, Try.ntmps45
  go_wp2_with fail
  refine (c1.out _).mono ?_
  rintro e w' ⟨rfl, rfl⟩
  go_wp2
  go_ret2
  exact ⟨rfl, rfl⟩

set_option maxHeartbeats 1000000 in
theorem div_42 (a b r : Nat) (ha : a ≤ 4294967295) (hb : b ≤ 4294967295) (hz : ¬ wrap32 (b : Int) = 0) (h : wrap32 ((wrap32 (a : Int)).tdiv (wrap32 (b : Int))) % 4294967296 = (r : Int)) (w : World) :
    Calls Try.prog 45 #[.int .u8 42, .int .u32 (a : Int), .int .u32 (b : Int)] w fun e w' => e = .returned (.tuple #[.int .u32 (r : Nat), .int .i64 0]) ∧ w = w' := by
  have z1 : ((b : Int) == 0) = false := by rw [beq_eq_false_iff_ne]; intro hc; rw [hc] at hz; exact hz (by unfold wrap32; omega)
  have s1 := Lib.hid (fun W => rsigned_any a ha W)
  have s2 := Lib.hid (fun W => rsigned_any b hb W)
  obtain ⟨A, hA⟩ : ∃ A, wrap32 (a : Int) = A := ⟨_, rfl⟩
  obtain ⟨C, hC⟩ : ∃ A, wrap32 (b : Int) = A := ⟨_, rfl⟩
  have hAb : -2147483648 ≤ A ∧ A ≤ 2147483647 := hA ▸ wrap_in (a : Int)
  have hCb : -2147483648 ≤ C ∧ C ≤ 2147483647 := hC ▸ wrap_in (b : Int)
  rw [hA] at h s1
  rw [hC] at h hz s2
  have z2 : (C == 0) = false := by rw [beq_eq_false_iff_ne]; exact hz
  obtain ⟨Q, hQ⟩ : ∃ Q, A.tdiv C = Q := ⟨_, rfl⟩
  have hQb : -2147483648 ≤ Q ∧ Q ≤ 2147483648 := by
    have h1 : Q.natAbs ≤ A.natAbs := by rw [← hQ, Int.natAbs_tdiv]; exact Nat.div_le_self _ _
    omega
  have hQw : IntKind.i64.wrap Q = Q := IntWalk.i64_in _ (by omega)
  rw [hQ] at h
  have c1 := Lib.hid (fun W => wrapped_is Q r (by omega) (by omega) (by rw [← wrap_mod]; exact h) W)
  clear h hA hC
  go_enter Try.func45, Try.ntmps45
  go_wp2_with fail
  refine (s1.out _).mono ?_
  rintro e w' ⟨rfl, rfl⟩
  go_wp2_with fail
  refine (s2.out _).mono ?_
  rintro e w' ⟨rfl, rfl⟩
  go_wp2_with fail
  refine (c1.out _).mono ?_
  rintro e w' ⟨rfl, rfl⟩
  go_wp2
  go_ret2
  exact ⟨rfl, rfl⟩

set_option maxHeartbeats 1000000 in
theorem div_44 (a b r : Nat) (ha : a ≤ 4294967295) (hb : b ≤ 4294967295) (hz : ¬ wrap32 (b : Int) = 0) (h : (wrap32 (a : Int)).tmod (wrap32 (b : Int)) % 4294967296 = (r : Int)) (w : World) :
    Calls Try.prog 45 #[.int .u8 44, .int .u32 (a : Int), .int .u32 (b : Int)] w fun e w' => e = .returned (.tuple #[.int .u32 (r : Nat), .int .i64 0]) ∧ w = w' := by
  have z1 : ((b : Int) == 0) = false := by rw [beq_eq_false_iff_ne]; intro hc; rw [hc] at hz; exact hz (by unfold wrap32; omega)
  have s1 := Lib.hid (fun W => rsigned_any a ha W)
  have s2 := Lib.hid (fun W => rsigned_any b hb W)
  obtain ⟨A, hA⟩ : ∃ A, wrap32 (a : Int) = A := ⟨_, rfl⟩
  obtain ⟨C, hC⟩ : ∃ A, wrap32 (b : Int) = A := ⟨_, rfl⟩
  have hAb : -2147483648 ≤ A ∧ A ≤ 2147483647 := hA ▸ wrap_in (a : Int)
  have hCb : -2147483648 ≤ C ∧ C ≤ 2147483647 := hC ▸ wrap_in (b : Int)
  rw [hA] at h s1
  rw [hC] at h hz s2
  have z2 : (C == 0) = false := by rw [beq_eq_false_iff_ne]; exact hz
  obtain ⟨Q, hQ⟩ : ∃ Q, A.tdiv C = Q := ⟨_, rfl⟩
  have hQb : -2147483648 ≤ Q ∧ Q ≤ 2147483648 := by
    have h1 : Q.natAbs ≤ A.natAbs := by rw [← hQ, Int.natAbs_tdiv]; exact Nat.div_le_self _ _
    omega
  have hQw : IntKind.i64.wrap Q = Q := IntWalk.i64_in _ (by omega)
  obtain ⟨T, hT⟩ : ∃ T, Q * C = T := ⟨_, rfl⟩
  have hm : A.tmod C = A - T := by
    have := Int.tmod_add_mul_tdiv A C
    rw [hQ, Int.mul_comm, hT] at this
    omega
  have hmb := tmod_in A C hAb.1 hAb.2
  rw [hm] at h hmb
  have hTw : IntKind.i64.wrap T = T := IntWalk.i64_in _ (by omega)
  have hRw : IntKind.i64.wrap (A - T) = A - T := IntWalk.i64_in _ (by omega)
  have c1 := Lib.hid (fun W => wrapped_is (A - T) r (by omega) (by omega) h W)
  clear h hA hC hm
  go_enter Try.func45, Try.ntmps45
  go_wp2_with fail
  refine (s1.out _).mono ?_
  rintro e w' ⟨rfl, rfl⟩
  go_wp2_with fail
  refine (s2.out _).mono ?_
  rintro e w' ⟨rfl, rfl⟩
  go_wp2_with fail
  refine (s1.out _).mono ?_
  rintro e w' ⟨rfl, rfl⟩
  go_wp2_with fail
  refine (s2.out _).mono ?_
  rintro e w' ⟨rfl, rfl⟩
  go_wp2_with fail
  refine (c1.out _).mono ?_
  rintro e w' ⟨rfl, rfl⟩
  go_wp2
  go_ret2
  exact ⟨rfl, rfl⟩

set_option maxHeartbeats 1000000 in
theorem rbin_42 (a b r : Nat) (ha : a ≤ 4294967295) (hb : b ≤ 4294967295) (hz : ¬ wrap32 (b : Int) = 0) (h : wrap32 ((wrap32 (a : Int)).tdiv (wrap32 (b : Int))) % 4294967296 = (r : Int)) (w : World) :
    Calls Try.prog 24 #[.int .u8 42, .int .u32 (a : Int), .int .u32 (b : Int)] w (Ret w (.tuple #[.int .u32 (r : Nat), .int .i64 0])) := by
  have c1 := Lib.hid (fun W => div_42 a b r ha hb hz h W)
  clear h hz
  go_enter Try.func24, Try.ntmps24
  go_wp2_with fail
  refine (c1.out _).mono ?_
  rintro e w' ⟨rfl, rfl⟩
  go_wp2
  go_ret2
  exact ⟨rfl, Below.refl _ _⟩

theorem rbin_42_nought (a : Nat) (w : World) : Calls Try.prog 24 #[.int .u8 42, .int .u32 (a : Int), .int .u32 0] w (Ret w (.tuple #[.int .u32 0, .int .i64 60])) := by
  have c1 := Lib.hid (fun W => div_nought 42 a W)
  go_enter Try.func24, Try.ntmps24
  go_wp2_with fail
  refine (c1.out _).mono ?_
  rintro e w' ⟨rfl, rfl⟩
  go_wp2
  go_ret2
  exact ⟨rfl, Below.refl _ _⟩

set_option maxHeartbeats 1000000 in
theorem rbin_43 (a b r : Nat) (ha : a ≤ 4294967295) (hb : b ≤ 4294967295) (hz : 0 < b) (h : a / b = r) (w : World) :
    Calls Try.prog 24 #[.int .u8 43, .int .u32 (a : Int), .int .u32 (b : Int)] w (Ret w (.tuple #[.int .u32 (r : Nat), .int .i64 0])) := by
  have c1 := Lib.hid (fun W => div_43 a b r ha hb hz h W)
  clear h hz
  go_enter Try.func24, Try.ntmps24
  go_wp2_with fail
  refine (c1.out _).mono ?_
  rintro e w' ⟨rfl, rfl⟩
  go_wp2
  go_ret2
  exact ⟨rfl, Below.refl _ _⟩

theorem rbin_43_nought (a : Nat) (w : World) : Calls Try.prog 24 #[.int .u8 43, .int .u32 (a : Int), .int .u32 0] w (Ret w (.tuple #[.int .u32 0, .int .i64 60])) := by
  have c1 := Lib.hid (fun W => div_nought 43 a W)
  go_enter Try.func24, Try.ntmps24
  go_wp2_with fail
  refine (c1.out _).mono ?_
  rintro e w' ⟨rfl, rfl⟩
  go_wp2
  go_ret2
  exact ⟨rfl, Below.refl _ _⟩

set_option maxHeartbeats 1000000 in
theorem rbin_44 (a b r : Nat) (ha : a ≤ 4294967295) (hb : b ≤ 4294967295) (hz : ¬ wrap32 (b : Int) = 0) (h : (wrap32 (a : Int)).tmod (wrap32 (b : Int)) % 4294967296 = (r : Int)) (w : World) :
    Calls Try.prog 24 #[.int .u8 44, .int .u32 (a : Int), .int .u32 (b : Int)] w (Ret w (.tuple #[.int .u32 (r : Nat), .int .i64 0])) := by
  have c1 := Lib.hid (fun W => div_44 a b r ha hb hz h W)
  clear h hz
  go_enter Try.func24, Try.ntmps24
  go_wp2_with fail
  refine (c1.out _).mono ?_
  rintro e w' ⟨rfl, rfl⟩
  go_wp2
  go_ret2
  exact ⟨rfl, Below.refl _ _⟩

theorem rbin_44_nought (a : Nat) (w : World) : Calls Try.prog 24 #[.int .u8 44, .int .u32 (a : Int), .int .u32 0] w (Ret w (.tuple #[.int .u32 0, .int .i64 60])) := by
  have c1 := Lib.hid (fun W => div_nought 44 a W)
  go_enter Try.func24, Try.ntmps24
  go_wp2_with fail
  refine (c1.out _).mono ?_
  rintro e w' ⟨rfl, rfl⟩
  go_wp2
  go_ret2
  exact ⟨rfl, Below.refl _ _⟩

set_option maxHeartbeats 1000000 in
theorem rbin_45 (a b r : Nat) (ha : a ≤ 4294967295) (hb : b ≤ 4294967295) (hz : 0 < b) (h : a % b = r) (w : World) :
    Calls Try.prog 24 #[.int .u8 45, .int .u32 (a : Int), .int .u32 (b : Int)] w (Ret w (.tuple #[.int .u32 (r : Nat), .int .i64 0])) := by
  have c1 := Lib.hid (fun W => div_45 a b r ha hb hz h W)
  clear h hz
  go_enter Try.func24, Try.ntmps24
  go_wp2_with fail
  refine (c1.out _).mono ?_
  rintro e w' ⟨rfl, rfl⟩
  go_wp2
  go_ret2
  exact ⟨rfl, Below.refl _ _⟩

theorem rbin_45_nought (a : Nat) (w : World) : Calls Try.prog 24 #[.int .u8 45, .int .u32 (a : Int), .int .u32 0] w (Ret w (.tuple #[.int .u32 0, .int .i64 60])) := by
  have c1 := Lib.hid (fun W => div_nought 45 a W)
  go_enter Try.func24, Try.ntmps24
  go_wp2_with fail
  refine (c1.out _).mono ?_
  rintro e w' ⟨rfl, rfl⟩
  go_wp2
  go_ret2
  exact ⟨rfl, Below.refl _ _⟩

set_option maxHeartbeats 1000000 in
theorem rbin_46 (a b r : Nat) (ha : a ≤ 4294967295) (hb : b ≤ 4294967295)  (h : a &&& b = r) (w : World) :
    Calls Try.prog 24 #[.int .u8 46, .int .u32 (a : Int), .int .u32 (b : Int)] w (Ret w (.tuple #[.int .u32 (r : Nat), .int .i64 0])) := by
  have c1 := Lib.hid (fun W => bits_46 a b r ha hb h W)
  clear h
  go_enter Try.func24, Try.ntmps24
  go_wp2_with fail
  refine (c1.out _).mono ?_
  rintro e w' ⟨rfl, rfl⟩
  go_wp2
  go_ret2
  exact ⟨rfl, Below.refl _ _⟩

set_option maxHeartbeats 1000000 in
theorem rbin_47 (a b r : Nat) (ha : a ≤ 4294967295) (hb : b ≤ 4294967295)  (h : a ||| b = r) (w : World) :
    Calls Try.prog 24 #[.int .u8 47, .int .u32 (a : Int), .int .u32 (b : Int)] w (Ret w (.tuple #[.int .u32 (r : Nat), .int .i64 0])) := by
  have c1 := Lib.hid (fun W => bits_47 a b r ha hb h W)
  clear h
  go_enter Try.func24, Try.ntmps24
  go_wp2_with fail
  refine (c1.out _).mono ?_
  rintro e w' ⟨rfl, rfl⟩
  go_wp2
  go_ret2
  exact ⟨rfl, Below.refl _ _⟩

set_option maxHeartbeats 1000000 in
theorem rbin_48 (a b r : Nat) (ha : a ≤ 4294967295) (hb : b ≤ 4294967295)  (h : a ^^^ b = r) (w : World) :
    Calls Try.prog 24 #[.int .u8 48, .int .u32 (a : Int), .int .u32 (b : Int)] w (Ret w (.tuple #[.int .u32 (r : Nat), .int .i64 0])) := by
  have c1 := Lib.hid (fun W => bits_48 a b r ha hb h W)
  clear h
  go_enter Try.func24, Try.ntmps24
  go_wp2_with fail
  refine (c1.out _).mono ?_
  rintro e w' ⟨rfl, rfl⟩
  go_wp2
  go_ret2
  exact ⟨rfl, Below.refl _ _⟩

set_option maxHeartbeats 1000000 in
theorem rbin_52 (a b r : Nat) (ha : a ≤ 4294967295) (hb : b ≤ 4294967295)  (h : a / 2 ^ (b % 32) = r) (w : World) :
    Calls Try.prog 24 #[.int .u8 52, .int .u32 (a : Int), .int .u32 (b : Int)] w (Ret w (.tuple #[.int .u32 (r : Nat), .int .i64 0])) := by
  obtain ⟨s, hs⟩ : ∃ s, b % 32 = s := ⟨_, rfl⟩
  have hsl : s < 32 := by omega
  rw [hs] at h
  obtain ⟨p, hp⟩ : ∃ p, 2 ^ s = p := ⟨_, rfl⟩
  have hpl : p ≤ 2147483648 := by rw [← hp]; exact Nat.pow_le_pow_right (by omega) (show s ≤ 31 by omega)
  have hp0 : 0 < p := by rw [← hp]; exact Nat.two_pow_pos _
  have m1 : (b : Int) % 32 = (s : Int) := by omega
  have m2 : (b : Int).tmod 32 = (s : Int) := by rw [← hs]; rfl
  have e1 : IntKind.i64.wrap (a : Int) = (a : Int) := IntWalk.i64_in _ (by omega)
  have c1 := Lib.hid (fun W => power_any s p (by omega) hp W)
  have zp : ((p : Int) == 0) = false := by rw [beq_eq_false_iff_ne]; omega
  have zp2 : ¬ (p : Int) = 0 := by omega
  rw [hp] at h
  have d1 : (a : Int).tdiv (p : Int) = (r : Int) := by rw [← h]; rfl
  have d2 : (a : Int) / (p : Int) = (r : Int) := by rw [← h]; rfl
  have hr : r ≤ 4294967295 := by rw [← h]; exact Nat.le_trans (Nat.div_le_self _ _) ha
  have d3 : IntKind.i64.wrap (r : Int) = (r : Int) := IntWalk.i64_in _ (by omega)
  have c2 := Lib.hid (fun W => wrapped_is (r : Int) r (by omega) (by omega) (by omega) W)
  clear h hs hp
  go_enter Try.func24, Try.ntmps24
  go_wp2_with fail
  refine (c1.out _).mono ?_
  rintro e w' ⟨rfl, rfl⟩
  go_wp2_with fail
  refine (c2.out _).mono ?_
  rintro e w' ⟨rfl, rfl⟩
  go_wp2
  go_ret2
  exact ⟨rfl, Below.refl _ _⟩

set_option maxHeartbeats 1000000 in
theorem rbin_51 (a b r : Nat) (ha : a ≤ 4294967295) (hb : b ≤ 4294967295)  (h : wrap32 (a : Int) / 2 ^ (b % 32) % 4294967296 = (r : Int)) (w : World) :
    Calls Try.prog 24 #[.int .u8 51, .int .u32 (a : Int), .int .u32 (b : Int)] w (Ret w (.tuple #[.int .u32 (r : Nat), .int .i64 0])) := by
  obtain ⟨s, hs⟩ : ∃ s, b % 32 = s := ⟨_, rfl⟩
  have hsl : s < 32 := by omega
  rw [hs] at h
  obtain ⟨p, hp⟩ : ∃ p, 2 ^ s = p := ⟨_, rfl⟩
  have hpl : p ≤ 2147483648 := by rw [← hp]; exact Nat.pow_le_pow_right (by omega) (show s ≤ 31 by omega)
  have hp0 : 0 < p := by rw [← hp]; exact Nat.two_pow_pos _
  have m1 : (b : Int) % 32 = (s : Int) := by omega
  have m2 : (b : Int).tmod 32 = (s : Int) := by rw [← hs]; rfl
  have e1 : IntKind.i64.wrap (a : Int) = (a : Int) := IntWalk.i64_in _ (by omega)
  have c1 := Lib.hid (fun W => power_any s p (by omega) hp W)
  have zp : ((p : Int) == 0) = false := by rw [beq_eq_false_iff_ne]; omega
  have zp2 : ¬ (p : Int) = 0 := by omega
  have h' : wrap32 (a : Int) / (p : Int) % 4294967296 = (r : Int) := by rw [← h, ← hp, Int.natCast_pow]; rfl
  have s1 := Lib.hid (fun W => rsigned_any a ha W)
  obtain ⟨A, hA⟩ : ∃ A, wrap32 (a : Int) = A := ⟨_, rfl⟩
  have hAb : -2147483648 ≤ A ∧ A ≤ 2147483647 := hA ▸ wrap_in (a : Int)
  rw [hA] at h' s1
  obtain ⟨F, hF⟩ : ∃ F, A / (p : Int) = F := ⟨_, rfl⟩
  rw [hF] at h'
  have hrb : -2147483648 ≤ F ∧ F ≤ 2147483647 := by
    rw [← hF]
    exact ⟨Int.le_ediv_of_mul_le (by omega) (by omega), Int.le_of_lt_add_one (Int.ediv_lt_of_lt_mul (by omega) (by omega))⟩
  have c2 := Lib.hid (fun W => floor_any A p hp0 hAb.1 hAb.2 (by omega) F hF W)
  have c3 := Lib.hid (fun W => wrapped_is F r (by omega) (by omega) h' W)
  clear h hs hp h' hA hF
  go_enter Try.func24, Try.ntmps24
  go_wp2_with fail
  refine (s1.out _).mono ?_
  rintro e w' ⟨rfl, rfl⟩
  go_wp2_with fail
  refine (c1.out _).mono ?_
  rintro e w' ⟨rfl, rfl⟩
  go_wp2_with fail
  refine (c2.out _).mono ?_
  rintro e w' ⟨rfl, rfl⟩
  go_wp2_with fail
  refine (c3.out _).mono ?_
  rintro e w' ⟨rfl, rfl⟩
  go_wp2
  go_ret2
  exact ⟨rfl, Below.refl _ _⟩

set_option maxRecDepth 100000 in
set_option maxHeartbeats 4000000 in
theorem rbin_50 (a b r : Nat) (ha : a ≤ 4294967295) (hb : b ≤ 4294967295)  (h : a * 2 ^ (b % 32) % 4294967296 = r) (w : World) :
    Calls Try.prog 24 #[.int .u8 50, .int .u32 (a : Int), .int .u32 (b : Int)] w (Ret w (.tuple #[.int .u32 (r : Nat), .int .i64 0])) := by
  obtain ⟨s, hs⟩ : ∃ s, b % 32 = s := ⟨_, rfl⟩
  have hsl : s < 32 := by omega
  rw [hs] at h
  obtain ⟨p, hp⟩ : ∃ p, 2 ^ s = p := ⟨_, rfl⟩
  have hpl : p ≤ 2147483648 := by rw [← hp]; exact Nat.pow_le_pow_right (by omega) (show s ≤ 31 by omega)
  have hp0 : 0 < p := by rw [← hp]; exact Nat.two_pow_pos _
  have m1 : (b : Int) % 32 = (s : Int) := by omega
  have m2 : (b : Int).tmod 32 = (s : Int) := by rw [← hs]; rfl
  have e1 : IntKind.i64.wrap (a : Int) = (a : Int) := IntWalk.i64_in _ (by omega)
  have c1 := Lib.hid (fun W => power_any s p (by omega) hp W)
  have zp : ((p : Int) == 0) = false := by rw [beq_eq_false_iff_ne]; omega
  have zp2 : ¬ (p : Int) = 0 := by omega
  obtain ⟨d, hd⟩ : ∃ d, 32 - s = d := ⟨_, rfl⟩
  have hsd : s + d = 32 := by omega
  obtain ⟨q, hq⟩ : ∃ q, 2 ^ d = q := ⟨_, rfl⟩
  have hpq : q * p = 4294967296 := by rw [← hq, ← hp, ← Nat.pow_add, show d + s = 32 from by omega]
  have hql : q ≤ 4294967296 := by rw [← hq]; exact Nat.pow_le_pow_right (by omega) (show d ≤ 32 by omega)
  have hq0 : 0 < q := by rw [← hq]; exact Nat.two_pow_pos _
  have c2 := Lib.hid (fun W => power_any d q (by omega) hq W)
  have ks : IntKind.u32.wrap ((32 : Int) - (s : Int)) = (d : Int) := by rw [IntKind.wrap_u32]; omega
  have ks2 : (32 : Int) - (s : Int) = (d : Int) := by omega
  have kd : IntKind.u32.wrap (d : Int) = (d : Int) := by rw [IntKind.wrap_u32]; omega
  have zq : ((q : Int) == 0) = false := by rw [beq_eq_false_iff_ne]; omega
  have zq2 : ¬ (q : Int) = 0 := by omega
  have zq3 : ¬ (0 : Int) = (q : Int) := by omega
  have zq4 : decide ((q : Int) = 0) = false := decide_eq_false zq2
  have zq5 : ((0 : Int) == (q : Int)) = false := by rw [beq_eq_false_iff_ne]; exact zq3
  have zq6 : (0 : Int) < (q : Int) := by omega
  have zq7 : ¬ q = 0 := by omega
  have zq8 : (q : Int) ≤ 9223372036854775807 := by omega
  have zq9 : (a : Int) ≤ 9223372036854775807 := by omega
  obtain ⟨M, hM⟩ : ∃ M, a % q = M := ⟨_, rfl⟩
  have hMl : M < q := by rw [← hM]; exact Nat.mod_lt _ hq0
  have d1 : (a : Int).tmod (q : Int) = (M : Int) := by rw [← hM]; rfl
  have d2 : (a : Int) % (q : Int) = (M : Int) := by rw [← hM]; rfl
  have hr : M * p = r := by
    have h3 := Nat.div_add_mod a q
    rw [hM] at h3
    have h4 : M * p < q * p := Nat.mul_lt_mul_of_pos_right hMl hp0
    have h5 : a * p = (q * p) * (a / q) + M * p := by
      have h6 : a * p = (q * (a / q) + M) * p := by rw [h3]
      rw [h6, Nat.add_mul, Nat.mul_right_comm]
    rw [← h, hp, h5, hpq]
    omega
  have hrl : r ≤ 4294967296 := by rw [← hr, ← hpq]; exact Nat.mul_le_mul_right _ (by omega)
  have p1 : (M : Int) * (p : Int) = (r : Int) := by rw [← hr]; exact (Int.natCast_mul M p).symm
  have d3 : IntKind.i64.wrap (M : Int) = (M : Int) := IntWalk.i64_in _ (by omega)
  have d4 : IntKind.i64.wrap (r : Int) = (r : Int) := IntWalk.i64_in _ (by omega)
  have hr2 : r < 4294967296 := by rw [← hr, ← hpq]; exact Nat.mul_lt_mul_of_pos_right hMl hp0
  have c3 := Lib.hid (fun W => wrapped_is (r : Int) r (by omega) (by omega) (by omega) W)
  clear h hs hp hM hr hpq hMl hd hsd hq
  have T1 := Lib.hid (show 1 = 1 from rfl)
  go_enter Try.func24, Try.ntmps24
  go_wp2_with fail
  go_region_held3 (fun _ => True) (trivial)
    (first
      | (go_at_call 47; clear T1; refine (c2.out _).mono ?_; rintro e w' ⟨rfl, rfl⟩)
      | (go_at_call 47; refine (c1.out _).mono ?_; rintro e w' ⟨rfl, rfl⟩)
      | (go_at_call 35; refine (c3.out _).mono ?_; rintro e w' ⟨rfl, rfl⟩))
  all_goals
    go_wp2
    go_ret2
    exact ⟨rfl, (by repeat (first | exact Below.refl _ _ | refine bs_drew ?_ | refine bs_drewN ?_ _))⟩

theorem rflt_54 (a b r : Nat) (ha : a ≤ 4294967295) (hb : b ≤ 4294967295) (h : sumW a b = r) (w : World) :
    Calls Try.prog 49 #[.int .u8 54, .int .u32 (a : Int), .int .u32 (b : Int)] w (Ret w (.tuple #[.int .u32 (r : Nat), .int .i64 0])) := by
  have c1 := fun W => Sums_any (a : Int) (b : Int) (by omega) (by omega) (by omega) (by omega) W
  rw [Int.toNat_natCast, Int.toNat_natCast, h] at c1
  have C1 := Lib.hid c1
  clear c1 h
  go_enter Try.func49, Try.ntmps49
  go_wp2_with fail
  refine (C1.out _).mono ?_
  rintro e w' ⟨rfl, hb1⟩
  go_wp2
  go_ret2
  exact ⟨rfl, hb1⟩
theorem rbin_54 (a b r : Nat) (ha : a ≤ 4294967295) (hb : b ≤ 4294967295) (h : sumW a b = r) (w : World) :
    Calls Try.prog 24 #[.int .u8 54, .int .u32 (a : Int), .int .u32 (b : Int)] w (Ret w (.tuple #[.int .u32 (r : Nat), .int .i64 0])) := by
  have c1 := Lib.hid (fun W => rflt_54 a b r ha hb h W)
  clear h
  go_enter Try.func24, Try.ntmps24
  go_wp2_with fail
  refine (c1.out _).mono ?_
  rintro e w' ⟨rfl, hb1⟩
  go_wp2
  go_ret2
  exact ⟨rfl, hb1⟩

theorem rflt_55 (a b r : Nat) (ha : a ≤ 4294967295) (hb : b ≤ 4294967295) (h : restW a b = r) (w : World) :
    Calls Try.prog 49 #[.int .u8 55, .int .u32 (a : Int), .int .u32 (b : Int)] w (Ret w (.tuple #[.int .u32 (r : Nat), .int .i64 0])) := by
  have c1 := fun W => RefRest_any (a : Int) (b : Int) (by omega) (by omega) (by omega) (by omega) W
  rw [Int.toNat_natCast, Int.toNat_natCast, h] at c1
  have C1 := Lib.hid c1
  clear c1 h
  go_enter Try.func49, Try.ntmps49
  go_wp2_with fail
  refine (C1.out _).mono ?_
  rintro e w' ⟨rfl, hb1⟩
  go_wp2
  go_ret2
  exact ⟨rfl, hb1⟩
theorem rbin_55 (a b r : Nat) (ha : a ≤ 4294967295) (hb : b ≤ 4294967295) (h : restW a b = r) (w : World) :
    Calls Try.prog 24 #[.int .u8 55, .int .u32 (a : Int), .int .u32 (b : Int)] w (Ret w (.tuple #[.int .u32 (r : Nat), .int .i64 0])) := by
  have c1 := Lib.hid (fun W => rflt_55 a b r ha hb h W)
  clear h
  go_enter Try.func24, Try.ntmps24
  go_wp2_with fail
  refine (c1.out _).mono ?_
  rintro e w' ⟨rfl, hb1⟩
  go_wp2
  go_ret2
  exact ⟨rfl, hb1⟩

theorem rflt_56 (a b r : Nat) (ha : a ≤ 4294967295) (hb : b ≤ 4294967295) (h : productW a b = r) (w : World) :
    Calls Try.prog 49 #[.int .u8 56, .int .u32 (a : Int), .int .u32 (b : Int)] w (Ret w (.tuple #[.int .u32 (r : Nat), .int .i64 0])) := by
  have c1 := fun W => Products_any (a : Int) (b : Int) (by omega) (by omega) (by omega) (by omega) W
  rw [Int.toNat_natCast, Int.toNat_natCast, h] at c1
  have C1 := Lib.hid c1
  clear c1 h
  go_enter Try.func49, Try.ntmps49
  go_wp2_with fail
  refine (C1.out _).mono ?_
  rintro e w' ⟨rfl, hb1⟩
  go_wp2
  go_ret2
  exact ⟨rfl, hb1⟩
theorem rbin_56 (a b r : Nat) (ha : a ≤ 4294967295) (hb : b ≤ 4294967295) (h : productW a b = r) (w : World) :
    Calls Try.prog 24 #[.int .u8 56, .int .u32 (a : Int), .int .u32 (b : Int)] w (Ret w (.tuple #[.int .u32 (r : Nat), .int .i64 0])) := by
  have c1 := Lib.hid (fun W => rflt_56 a b r ha hb h W)
  clear h
  go_enter Try.func24, Try.ntmps24
  go_wp2_with fail
  refine (c1.out _).mono ?_
  rintro e w' ⟨rfl, hb1⟩
  go_wp2
  go_ret2
  exact ⟨rfl, hb1⟩

theorem rflt_57 (a b r : Nat) (ha : a ≤ 4294967295) (hb : b ≤ 4294967295) (h : ratioW a b = r) (w : World) :
    Calls Try.prog 49 #[.int .u8 57, .int .u32 (a : Int), .int .u32 (b : Int)] w (Ret w (.tuple #[.int .u32 (r : Nat), .int .i64 0])) := by
  have c1 := fun W => Ratios_any (a : Int) (b : Int) (by omega) (by omega) (by omega) (by omega) W
  rw [Int.toNat_natCast, Int.toNat_natCast, h] at c1
  have C1 := Lib.hid c1
  clear c1 h
  go_enter Try.func49, Try.ntmps49
  go_wp2_with fail
  refine (C1.out _).mono ?_
  rintro e w' ⟨rfl, hb1⟩
  go_wp2
  go_ret2
  exact ⟨rfl, hb1⟩
theorem rbin_57 (a b r : Nat) (ha : a ≤ 4294967295) (hb : b ≤ 4294967295) (h : ratioW a b = r) (w : World) :
    Calls Try.prog 24 #[.int .u8 57, .int .u32 (a : Int), .int .u32 (b : Int)] w (Ret w (.tuple #[.int .u32 (r : Nat), .int .i64 0])) := by
  have c1 := Lib.hid (fun W => rflt_57 a b r ha hb h W)
  clear h
  go_enter Try.func24, Try.ntmps24
  go_wp2_with fail
  refine (c1.out _).mono ?_
  rintro e w' ⟨rfl, hb1⟩
  go_wp2
  go_ret2
  exact ⟨rfl, hb1⟩

theorem rflt_other (op a b : Int) (h54 : (op == 54) = false) (h55 : (op == 55) = false) (h56 : (op == 56) = false) (h57 : (op == 57) = false) (w : World) :
    Calls Try.prog 49 #[.int .u8 op, .int .u32 a, .int .u32 b] w fun e w' => e = .returned (.tuple #[.int .u32 0, .int .i64 61]) ∧ w = w' := by
  go_enter Try.func49, Try.ntmps49
  go_wp2
  go_ret2
  exact ⟨rfl, rfl⟩
theorem rbin_other (op a b : Int) (h39 : (op == 39) = false) (h40 : (op == 40) = false) (h41 : (op == 41) = false) (h42 : (op == 42) = false) (h43 : (op == 43) = false) (h44 : (op == 44) = false) (h45 : (op == 45) = false) (h46 : (op == 46) = false) (h47 : (op == 47) = false) (h48 : (op == 48) = false) (h50 : (op == 50) = false) (h52 : (op == 52) = false) (h51 : (op == 51) = false) (h54 : (op == 54) = false) (h55 : (op == 55) = false) (h56 : (op == 56) = false) (h57 : (op == 57) = false) (w : World) :
    Calls Try.prog 24 #[.int .u8 op, .int .u32 a, .int .u32 b] w (Ret w (.tuple #[.int .u32 0, .int .i64 61])) := by
  have c1 := Lib.hid (fun W => rflt_other op a b h54 h55 h56 h57 W)
  clear h54 h55 h56 h57
  go_enter Try.func24, Try.ntmps24
  go_wp2_with fail
  refine (c1.out _).mono ?_
  rintro e w' ⟨rfl, rfl⟩
  go_wp2
  go_ret2
  exact ⟨rfl, Below.refl _ _⟩

theorem nat_of_mod2 (x : Int) : ∃ q : Nat, x % 4294967296 = (q : Int) := Int.eq_ofNat_of_zero_le (Int.emod_nonneg _ (by decide))
theorem wrap_nz (b : Nat) (h0 : 0 < b) (hb : b ≤ 4294967295) : ¬ wrap32 (b : Int) = 0 := by unfold wrap32; omega

theorem lbi_39 (a b : Nat) (ha : a ≤ 4294967295) (hb : b ≤ 4294967295) (w : World) : Calls Try.prog 6 #[.int .u8 39, .int .u32 (a : Int), .int .u32 (b : Int)] w (Ret w (.bool true)) := by
  obtain ⟨r, hr⟩ : ∃ r, (a + b) % 4294967296 = r := ⟨_, rfl⟩
  have k1 := Lib.hid (fun W => Binary_39 a b r ha hb hr W)
  have k2 := Lib.hid (fun W => rbin_39 a b r ha hb hr W)
  go_enter Try.func6, Try.ntmps6
  go_wp2_with fail
  refine (k1.out _).mono ?_
  rintro e w' ⟨rfl, h1⟩
  go_wp2_with fail
  refine (k2.out _).mono ?_
  rintro e w' ⟨rfl, h2⟩
  go_wp2
  go_ret
  exact ⟨ret_same (by simp), bs_step h1 h2⟩

theorem lbi_40 (a b : Nat) (ha : a ≤ 4294967295) (hb : b ≤ 4294967295) (w : World) : Calls Try.prog 6 #[.int .u8 40, .int .u32 (a : Int), .int .u32 (b : Int)] w (Ret w (.bool true)) := by
  obtain ⟨r, hr⟩ : ∃ r, (a + 4294967296 - b) % 4294967296 = r := ⟨_, rfl⟩
  have k1 := Lib.hid (fun W => Binary_40 a b r ha hb hr W)
  have k2 := Lib.hid (fun W => rbin_40 a b r ha hb hr W)
  go_enter Try.func6, Try.ntmps6
  go_wp2_with fail
  refine (k1.out _).mono ?_
  rintro e w' ⟨rfl, h1⟩
  go_wp2_with fail
  refine (k2.out _).mono ?_
  rintro e w' ⟨rfl, h2⟩
  go_wp2
  go_ret
  exact ⟨ret_same (by simp), bs_step h1 h2⟩

theorem lbi_41 (a b : Nat) (ha : a ≤ 4294967295) (hb : b ≤ 4294967295) (w : World) : Calls Try.prog 6 #[.int .u8 41, .int .u32 (a : Int), .int .u32 (b : Int)] w (Ret w (.bool true)) := by
  obtain ⟨r, hr⟩ : ∃ r, a * b % 4294967296 = r := ⟨_, rfl⟩
  have k1 := Lib.hid (fun W => Binary_41 a b r ha hb hr W)
  have k2 := Lib.hid (fun W => rbin_41 a b r ha hb hr W)
  go_enter Try.func6, Try.ntmps6
  go_wp2_with fail
  refine (k1.out _).mono ?_
  rintro e w' ⟨rfl, h1⟩
  go_wp2_with fail
  refine (k2.out _).mono ?_
  rintro e w' ⟨rfl, h2⟩
  go_wp2
  go_ret
  exact ⟨ret_same (by simp), bs_step h1 h2⟩

theorem lbi_42 (a b : Nat) (ha : a ≤ 4294967295) (hb : b ≤ 4294967295) (h0 : 0 < b) (w : World) : Calls Try.prog 6 #[.int .u8 42, .int .u32 (a : Int), .int .u32 (b : Int)] w (Ret w (.bool true)) := by
  have hz := wrap_nz b h0 hb
  obtain ⟨r, hr⟩ := nat_of_mod2 (wrap32 ((wrap32 (a : Int)).tdiv (wrap32 (b : Int))))
  have k1 := Lib.hid (fun W => Binary_42 a b r ha hb hz hr W)
  have k2 := Lib.hid (fun W => rbin_42 a b r ha hb hz hr W)
  go_enter Try.func6, Try.ntmps6
  go_wp2_with fail
  refine (k1.out _).mono ?_
  rintro e w' ⟨rfl, h1⟩
  go_wp2_with fail
  refine (k2.out _).mono ?_
  rintro e w' ⟨rfl, h2⟩
  go_wp2
  go_ret
  exact ⟨ret_same (by simp), bs_step h1 h2⟩

theorem lbi_43 (a b : Nat) (ha : a ≤ 4294967295) (hb : b ≤ 4294967295) (h0 : 0 < b) (w : World) : Calls Try.prog 6 #[.int .u8 43, .int .u32 (a : Int), .int .u32 (b : Int)] w (Ret w (.bool true)) := by
  obtain ⟨r, hr⟩ : ∃ r, a / b = r := ⟨_, rfl⟩
  have k1 := Lib.hid (fun W => Binary_43 a b r ha hb h0 hr W)
  have k2 := Lib.hid (fun W => rbin_43 a b r ha hb h0 hr W)
  go_enter Try.func6, Try.ntmps6
  go_wp2_with fail
  refine (k1.out _).mono ?_
  rintro e w' ⟨rfl, h1⟩
  go_wp2_with fail
  refine (k2.out _).mono ?_
  rintro e w' ⟨rfl, h2⟩
  go_wp2
  go_ret
  exact ⟨ret_same (by simp), bs_step h1 h2⟩

theorem lbi_44 (a b : Nat) (ha : a ≤ 4294967295) (hb : b ≤ 4294967295) (h0 : 0 < b) (w : World) : Calls Try.prog 6 #[.int .u8 44, .int .u32 (a : Int), .int .u32 (b : Int)] w (Ret w (.bool true)) := by
  have hz := wrap_nz b h0 hb
  obtain ⟨r, hr⟩ := nat_of_mod2 ((wrap32 (a : Int)).tmod (wrap32 (b : Int)))
  have k1 := Lib.hid (fun W => Binary_44 a b r ha hb hz hr W)
  have k2 := Lib.hid (fun W => rbin_44 a b r ha hb hz hr W)
  go_enter Try.func6, Try.ntmps6
  go_wp2_with fail
  refine (k1.out _).mono ?_
  rintro e w' ⟨rfl, h1⟩
  go_wp2_with fail
  refine (k2.out _).mono ?_
  rintro e w' ⟨rfl, h2⟩
  go_wp2
  go_ret
  exact ⟨ret_same (by simp), bs_step h1 h2⟩

theorem lbi_45 (a b : Nat) (ha : a ≤ 4294967295) (hb : b ≤ 4294967295) (h0 : 0 < b) (w : World) : Calls Try.prog 6 #[.int .u8 45, .int .u32 (a : Int), .int .u32 (b : Int)] w (Ret w (.bool true)) := by
  obtain ⟨r, hr⟩ : ∃ r, a % b = r := ⟨_, rfl⟩
  have k1 := Lib.hid (fun W => Binary_45 a b r ha hb h0 hr W)
  have k2 := Lib.hid (fun W => rbin_45 a b r ha hb h0 hr W)
  go_enter Try.func6, Try.ntmps6
  go_wp2_with fail
  refine (k1.out _).mono ?_
  rintro e w' ⟨rfl, h1⟩
  go_wp2_with fail
  refine (k2.out _).mono ?_
  rintro e w' ⟨rfl, h2⟩
  go_wp2
  go_ret
  exact ⟨ret_same (by simp), bs_step h1 h2⟩

theorem lbi_46 (a b : Nat) (ha : a ≤ 4294967295) (hb : b ≤ 4294967295) (w : World) : Calls Try.prog 6 #[.int .u8 46, .int .u32 (a : Int), .int .u32 (b : Int)] w (Ret w (.bool true)) := by
  obtain ⟨r, hr⟩ : ∃ r, a &&& b = r := ⟨_, rfl⟩
  have k1 := Lib.hid (fun W => Binary_46 a b r ha hb hr W)
  have k2 := Lib.hid (fun W => rbin_46 a b r ha hb hr W)
  go_enter Try.func6, Try.ntmps6
  go_wp2_with fail
  refine (k1.out _).mono ?_
  rintro e w' ⟨rfl, h1⟩
  go_wp2_with fail
  refine (k2.out _).mono ?_
  rintro e w' ⟨rfl, h2⟩
  go_wp2
  go_ret
  exact ⟨ret_same (by simp), bs_step h1 h2⟩

theorem lbi_47 (a b : Nat) (ha : a ≤ 4294967295) (hb : b ≤ 4294967295) (w : World) : Calls Try.prog 6 #[.int .u8 47, .int .u32 (a : Int), .int .u32 (b : Int)] w (Ret w (.bool true)) := by
  obtain ⟨r, hr⟩ : ∃ r, a ||| b = r := ⟨_, rfl⟩
  have k1 := Lib.hid (fun W => Binary_47 a b r ha hb hr W)
  have k2 := Lib.hid (fun W => rbin_47 a b r ha hb hr W)
  go_enter Try.func6, Try.ntmps6
  go_wp2_with fail
  refine (k1.out _).mono ?_
  rintro e w' ⟨rfl, h1⟩
  go_wp2_with fail
  refine (k2.out _).mono ?_
  rintro e w' ⟨rfl, h2⟩
  go_wp2
  go_ret
  exact ⟨ret_same (by simp), bs_step h1 h2⟩

theorem lbi_48 (a b : Nat) (ha : a ≤ 4294967295) (hb : b ≤ 4294967295) (w : World) : Calls Try.prog 6 #[.int .u8 48, .int .u32 (a : Int), .int .u32 (b : Int)] w (Ret w (.bool true)) := by
  obtain ⟨r, hr⟩ : ∃ r, a ^^^ b = r := ⟨_, rfl⟩
  have k1 := Lib.hid (fun W => Binary_48 a b r ha hb hr W)
  have k2 := Lib.hid (fun W => rbin_48 a b r ha hb hr W)
  go_enter Try.func6, Try.ntmps6
  go_wp2_with fail
  refine (k1.out _).mono ?_
  rintro e w' ⟨rfl, h1⟩
  go_wp2_with fail
  refine (k2.out _).mono ?_
  rintro e w' ⟨rfl, h2⟩
  go_wp2
  go_ret
  exact ⟨ret_same (by simp), bs_step h1 h2⟩

theorem lbi_50 (a b : Nat) (ha : a ≤ 4294967295) (hb : b ≤ 4294967295) (w : World) : Calls Try.prog 6 #[.int .u8 50, .int .u32 (a : Int), .int .u32 (b : Int)] w (Ret w (.bool true)) := by
  obtain ⟨r, hr⟩ : ∃ r, a * 2 ^ (b % 32) % 4294967296 = r := ⟨_, rfl⟩
  have k1 := Lib.hid (fun W => Binary_50 a b r ha hb hr W)
  have k2 := Lib.hid (fun W => rbin_50 a b r ha hb hr W)
  go_enter Try.func6, Try.ntmps6
  go_wp2_with fail
  refine (k1.out _).mono ?_
  rintro e w' ⟨rfl, h1⟩
  go_wp2_with fail
  refine (k2.out _).mono ?_
  rintro e w' ⟨rfl, h2⟩
  go_wp2
  go_ret
  exact ⟨ret_same (by simp), bs_step h1 h2⟩

theorem lbi_51 (a b : Nat) (ha : a ≤ 4294967295) (hb : b ≤ 4294967295) (w : World) : Calls Try.prog 6 #[.int .u8 51, .int .u32 (a : Int), .int .u32 (b : Int)] w (Ret w (.bool true)) := by
  obtain ⟨r, hr⟩ := nat_of_mod2 (wrap32 (a : Int) / 2 ^ (b % 32))
  have k1 := Lib.hid (fun W => Binary_51 a b r ha hb hr W)
  have k2 := Lib.hid (fun W => rbin_51 a b r ha hb hr W)
  go_enter Try.func6, Try.ntmps6
  go_wp2_with fail
  refine (k1.out _).mono ?_
  rintro e w' ⟨rfl, h1⟩
  go_wp2_with fail
  refine (k2.out _).mono ?_
  rintro e w' ⟨rfl, h2⟩
  go_wp2
  go_ret
  exact ⟨ret_same (by simp), bs_step h1 h2⟩

theorem lbi_52 (a b : Nat) (ha : a ≤ 4294967295) (hb : b ≤ 4294967295) (w : World) : Calls Try.prog 6 #[.int .u8 52, .int .u32 (a : Int), .int .u32 (b : Int)] w (Ret w (.bool true)) := by
  obtain ⟨r, hr⟩ : ∃ r, a / 2 ^ (b % 32) = r := ⟨_, rfl⟩
  have k1 := Lib.hid (fun W => Binary_52 a b r ha hb hr W)
  have k2 := Lib.hid (fun W => rbin_52 a b r ha hb hr W)
  go_enter Try.func6, Try.ntmps6
  go_wp2_with fail
  refine (k1.out _).mono ?_
  rintro e w' ⟨rfl, h1⟩
  go_wp2_with fail
  refine (k2.out _).mono ?_
  rintro e w' ⟨rfl, h2⟩
  go_wp2
  go_ret
  exact ⟨ret_same (by simp), bs_step h1 h2⟩

theorem lbi_42_nought (a : Nat) (ha : a ≤ 4294967295) (w : World) : Calls Try.prog 6 #[.int .u8 42, .int .u32 (a : Int), .int .u32 0] w (Ret w (.bool true)) := by
  have k1 := Lib.hid (fun W => Binary_42_nought a W)
  have k2 := Lib.hid (fun W => rbin_42_nought a W)
  go_enter Try.func6, Try.ntmps6
  go_wp2_with fail
  refine (k1.out _).mono ?_
  rintro e w' ⟨rfl, h1⟩
  go_wp2_with fail
  refine (k2.out _).mono ?_
  rintro e w' ⟨rfl, h2⟩
  go_wp2
  go_ret
  exact ⟨ret_same (by simp), bs_step h1 h2⟩

theorem lbi_43_nought (a : Nat) (ha : a ≤ 4294967295) (w : World) : Calls Try.prog 6 #[.int .u8 43, .int .u32 (a : Int), .int .u32 0] w (Ret w (.bool true)) := by
  have k1 := Lib.hid (fun W => Binary_43_nought a W)
  have k2 := Lib.hid (fun W => rbin_43_nought a W)
  go_enter Try.func6, Try.ntmps6
  go_wp2_with fail
  refine (k1.out _).mono ?_
  rintro e w' ⟨rfl, h1⟩
  go_wp2_with fail
  refine (k2.out _).mono ?_
  rintro e w' ⟨rfl, h2⟩
  go_wp2
  go_ret
  exact ⟨ret_same (by simp), bs_step h1 h2⟩

theorem lbi_44_nought (a : Nat) (ha : a ≤ 4294967295) (w : World) : Calls Try.prog 6 #[.int .u8 44, .int .u32 (a : Int), .int .u32 0] w (Ret w (.bool true)) := by
  have k1 := Lib.hid (fun W => Binary_44_nought a W)
  have k2 := Lib.hid (fun W => rbin_44_nought a W)
  go_enter Try.func6, Try.ntmps6
  go_wp2_with fail
  refine (k1.out _).mono ?_
  rintro e w' ⟨rfl, h1⟩
  go_wp2_with fail
  refine (k2.out _).mono ?_
  rintro e w' ⟨rfl, h2⟩
  go_wp2
  go_ret
  exact ⟨ret_same (by simp), bs_step h1 h2⟩

theorem lbi_45_nought (a : Nat) (ha : a ≤ 4294967295) (w : World) : Calls Try.prog 6 #[.int .u8 45, .int .u32 (a : Int), .int .u32 0] w (Ret w (.bool true)) := by
  have k1 := Lib.hid (fun W => Binary_45_nought a W)
  have k2 := Lib.hid (fun W => rbin_45_nought a W)
  go_enter Try.func6, Try.ntmps6
  go_wp2_with fail
  refine (k1.out _).mono ?_
  rintro e w' ⟨rfl, h1⟩
  go_wp2_with fail
  refine (k2.out _).mono ?_
  rintro e w' ⟨rfl, h2⟩
  go_wp2
  go_ret
  exact ⟨ret_same (by simp), bs_step h1 h2⟩

theorem lbi_54 (a b : Nat) (ha : a ≤ 4294967295) (hb : b ≤ 4294967295) (w : World) : Calls Try.prog 6 #[.int .u8 54, .int .u32 (a : Int), .int .u32 (b : Int)] w (Ret w (.bool true)) := by
  obtain ⟨r, hr⟩ : ∃ r, sumW a b = r := ⟨_, rfl⟩
  have k1 := Lib.hid (fun W => Binary_54 a b r hr W)
  have k2 := Lib.hid (fun W => rbin_54 a b r ha hb hr W)
  go_enter Try.func6, Try.ntmps6
  go_wp2_with fail
  refine (k1.out _).mono ?_
  rintro e w' ⟨rfl, h1⟩
  go_wp2_with fail
  refine (k2.out _).mono ?_
  rintro e w' ⟨rfl, h2⟩
  go_wp2
  go_ret
  exact ⟨ret_same (by simp), bs_step h1 h2⟩

theorem lbi_55 (a b : Nat) (ha : a ≤ 4294967295) (hb : b ≤ 4294967295) (w : World) : Calls Try.prog 6 #[.int .u8 55, .int .u32 (a : Int), .int .u32 (b : Int)] w (Ret w (.bool true)) := by
  obtain ⟨r, hr⟩ : ∃ r, restW a b = r := ⟨_, rfl⟩
  have k1 := Lib.hid (fun W => Binary_55 a b r hr W)
  have k2 := Lib.hid (fun W => rbin_55 a b r ha hb hr W)
  go_enter Try.func6, Try.ntmps6
  go_wp2_with fail
  refine (k1.out _).mono ?_
  rintro e w' ⟨rfl, h1⟩
  go_wp2_with fail
  refine (k2.out _).mono ?_
  rintro e w' ⟨rfl, h2⟩
  go_wp2
  go_ret
  exact ⟨ret_same (by simp), bs_step h1 h2⟩

theorem lbi_56 (a b : Nat) (ha : a ≤ 4294967295) (hb : b ≤ 4294967295) (w : World) : Calls Try.prog 6 #[.int .u8 56, .int .u32 (a : Int), .int .u32 (b : Int)] w (Ret w (.bool true)) := by
  obtain ⟨r, hr⟩ : ∃ r, productW a b = r := ⟨_, rfl⟩
  have k1 := Lib.hid (fun W => Binary_56 a b r hr W)
  have k2 := Lib.hid (fun W => rbin_56 a b r ha hb hr W)
  go_enter Try.func6, Try.ntmps6
  go_wp2_with fail
  refine (k1.out _).mono ?_
  rintro e w' ⟨rfl, h1⟩
  go_wp2_with fail
  refine (k2.out _).mono ?_
  rintro e w' ⟨rfl, h2⟩
  go_wp2
  go_ret
  exact ⟨ret_same (by simp), bs_step h1 h2⟩

theorem lbi_57 (a b : Nat) (ha : a ≤ 4294967295) (hb : b ≤ 4294967295) (w : World) : Calls Try.prog 6 #[.int .u8 57, .int .u32 (a : Int), .int .u32 (b : Int)] w (Ret w (.bool true)) := by
  obtain ⟨r, hr⟩ : ∃ r, ratioW a b = r := ⟨_, rfl⟩
  have k1 := Lib.hid (fun W => Binary_57 a b r hr W)
  have k2 := Lib.hid (fun W => rbin_57 a b r ha hb hr W)
  go_enter Try.func6, Try.ntmps6
  go_wp2_with fail
  refine (k1.out _).mono ?_
  rintro e w' ⟨rfl, h1⟩
  go_wp2_with fail
  refine (k2.out _).mono ?_
  rintro e w' ⟨rfl, h2⟩
  go_wp2
  go_ret
  exact ⟨ret_same (by simp), bs_step h1 h2⟩

theorem lbi_other (op : Int) (a b : Nat) (h39 : ((op : Int) == 39) = false) (h40 : ((op : Int) == 40) = false) (h41 : ((op : Int) == 41) = false) (h42 : ((op : Int) == 42) = false) (h43 : ((op : Int) == 43) = false) (h44 : ((op : Int) == 44) = false) (h45 : ((op : Int) == 45) = false) (h46 : ((op : Int) == 46) = false) (h47 : ((op : Int) == 47) = false) (h48 : ((op : Int) == 48) = false) (h50 : ((op : Int) == 50) = false) (h51 : ((op : Int) == 51) = false) (h52 : ((op : Int) == 52) = false) (h54 : ((op : Int) == 54) = false) (h55 : ((op : Int) == 55) = false) (h56 : ((op : Int) == 56) = false) (h57 : ((op : Int) == 57) = false) (w : World) : Calls Try.prog 6 #[.int .u8 op, .int .u32 (a : Int), .int .u32 (b : Int)] w (Ret w (.bool true)) := by
  have k1 := Lib.hid (fun W => Binary_of op a b 0 61 (fun W => got_same (bin_other op a b h39 h40 h41 h42 h43 h44 h45 h46 h47 h48 h50 h51 h52 h54 h55 h56 h57 W)) W)
  have k2 := Lib.hid (fun W => rbin_other op a b h39 h40 h41 h42 h43 h44 h45 h46 h47 h48 h50 h52 h51 h54 h55 h56 h57 W)
  go_enter Try.func6, Try.ntmps6
  go_wp2_with fail
  refine (k1.out _).mono ?_
  rintro e w' ⟨rfl, h1⟩
  go_wp2_with fail
  refine (k2.out _).mono ?_
  rintro e w' ⟨rfl, h2⟩
  go_wp2
  go_ret
  exact ⟨ret_same (by simp), bs_step h1 h2⟩
end Go.Proofs.Ytfgbjaejkfkmmaa
