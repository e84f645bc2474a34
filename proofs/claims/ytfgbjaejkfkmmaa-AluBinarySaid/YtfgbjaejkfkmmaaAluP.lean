/- Plain laws of wrapped words: rings, bits, shifts, quotients. -/
import Derived.Test.YtfgbjaejkfkmmaaAluT
namespace Go.Proofs.Ytfgbjaejkfkmmaa
open Go.RowKit Ieee

theorem ret_same {v u : Value} (h : v = u) : Ending.returned v = .returned u := by rw [h]
theorem and_add_or : ∀ (n a b : Nat), a < n → (a &&& b) + (a ||| b) = a + b := by
  intro n
  induction n with
  | zero => intro a b h; omega
  | succ n ih =>
    intro a b h
    by_cases h0 : a = 0
    · subst h0; simp
    · have h1 := ih (a / 2) (b / 2) (by omega)
      have e1 := Nat.and_mod_two_pow (a := a) (b := b) (n := 1)
      have e2 := Nat.and_div_two_pow (a := a) (b := b) (n := 1)
      have e3 := Nat.or_mod_two_pow (a := a) (b := b) (n := 1)
      have e4 := Nat.or_div_two_pow (a := a) (b := b) (n := 1)
      rw [Nat.pow_one] at e1 e2 e3 e4
      have m1 : a % 2 = 0 ∨ a % 2 = 1 := by omega
      have m2 : b % 2 = 0 ∨ b % 2 = 1 := by omega
      rcases m1 with m1 | m1 <;> rcases m2 with m2 | m2 <;> rw [m1, m2] at e1 e3 <;> simp only [Nat.reduceAnd, Nat.reduceOr] at e1 e3 <;> omega
theorem and_add_xor : ∀ (n a b : Nat), a < n → (a &&& b) + (a ^^^ b) = (a ||| b) := by
  intro n
  induction n with
  | zero => intro a b h; omega
  | succ n ih =>
    intro a b h
    by_cases h0 : a = 0
    · subst h0; simp
    · have h1 := ih (a / 2) (b / 2) (by omega)
      have e1 := Nat.and_mod_two_pow (a := a) (b := b) (n := 1)
      have e2 := Nat.and_div_two_pow (a := a) (b := b) (n := 1)
      have e3 := Nat.or_mod_two_pow (a := a) (b := b) (n := 1)
      have e4 := Nat.or_div_two_pow (a := a) (b := b) (n := 1)
      have e5 := Nat.xor_mod_two_pow (a := a) (b := b) (n := 1)
      have e6 := Nat.xor_div_two_pow (a := a) (b := b) (n := 1)
      rw [Nat.pow_one] at e1 e2 e3 e4 e5 e6
      have m1 : a % 2 = 0 ∨ a % 2 = 1 := by omega
      have m2 : b % 2 = 0 ∨ b % 2 = 1 := by omega
      rcases m1 with m1 | m1 <;> rcases m2 with m2 | m2 <;> rw [m1, m2] at e1 e3 e5 <;> simp only [Nat.reduceAnd, Nat.reduceOr, Nat.reduceXor] at e1 e3 e5 <;> omega
theorem and_or_same (a b : Nat) : a &&& (a ||| b) = a := by
  apply Nat.eq_of_testBit_eq
  intro i
  rw [Nat.testBit_and, Nat.testBit_or]
  cases a.testBit i <;> rfl
theorem high_bit {a i : Nat} (ha : a ≤ 4294967295) (hi : ¬ i < 32) : a.testBit i = false := by
  have h1 : 2 ^ 32 ≤ 2 ^ i := Nat.pow_le_pow_right (by omega) (by omega)
  exact Nat.testBit_lt_two_pow (by omega)
theorem not_and (a b : Nat) (ha : a ≤ 4294967295) (hb : b ≤ 4294967295) : 4294967295 - (a &&& b) = (4294967295 - a) ||| (4294967295 - b) := by
  have hab : a &&& b ≤ a := Nat.and_le_left
  rw [← nat_not (a &&& b) (by omega), ← nat_not a ha, ← nat_not b hb]
  apply Nat.eq_of_testBit_eq
  intro i
  rw [Nat.testBit_or, Nat.testBit_xor, Nat.testBit_xor, Nat.testBit_xor, Nat.testBit_and, show (4294967295 : Nat) = 2 ^ 32 - 1 from rfl, Nat.testBit_two_pow_sub_one]
  by_cases hi : i < 32
  · simp [hi]
  · simp [hi, high_bit ha hi, high_bit hb hi]

theorem ring_mul (a b c s u v : Nat) (hs : (a + b) % 4294967296 = s) (hu : a * c % 4294967296 = u) (hv : b * c % 4294967296 = v) : (u + v) % 4294967296 = s * c % 4294967296 := by
  subst hs hu hv
  rw [← Nat.add_mod, ← Nat.add_mul]
  rw [Nat.mul_mod (a + b) c, Nat.mul_mod ((a + b) % 4294967296) c, Nat.mod_mod]

theorem shl_shru (a s : Nat) (hs : s < 32) : a * 2 ^ s % 4294967296 / 2 ^ s = a &&& (4294967295 / 2 ^ s) := by
  have e1 : (4294967296 : Nat) = 2 ^ s * 2 ^ (32 - s) := by rw [← Nat.pow_add, show s + (32 - s) = 32 from by omega]
  have e2 : 4294967295 / 2 ^ s = 2 ^ (32 - s) - 1 := by
    have hp : 0 < 2 ^ s := Nat.two_pow_pos s
    have hq : 0 < 2 ^ (32 - s) := Nat.two_pow_pos _
    have h1 : 4294967295 = 2 ^ s * (2 ^ (32 - s) - 1) + (2 ^ s - 1) := by
      rw [Nat.mul_sub, Nat.mul_one, ← e1]
      have : 2 ^ s ≤ 2 ^ 32 := Nat.pow_le_pow_right (by omega) (by omega)
      omega
    rw [h1, Nat.mul_add_div hp, Nat.div_eq_of_lt (by omega), Nat.add_zero]
  rw [e2, Nat.and_two_pow_sub_one_eq_mod, e1, Nat.mul_comm a, Nat.mul_mod_mul_left, Nat.mul_div_cancel_left _ (Nat.two_pow_pos s)]

theorem shru_shl (a s : Nat) (ha : a ≤ 4294967295) : a / 2 ^ s * 2 ^ s % 4294967296 = a - a % 2 ^ s := by
  have h1 := Nat.div_add_mod a (2 ^ s)
  rw [Nat.mul_comm] at h1
  have h2 : a / 2 ^ s * 2 ^ s ≤ a := Nat.div_mul_le_self a _
  rw [Nat.mod_eq_of_lt (by omega)]
  omega

theorem wrap_low (a : Nat) (h : a < 2147483648) : wrap32 (a : Int) = (a : Int) := by unfold wrap32; omega
theorem wrap_high (a : Nat) (h : 2147483648 ≤ a) (h2 : a ≤ 4294967295) : wrap32 (a : Int) = (a : Int) - 4294967296 := by unfold wrap32; omega
theorem shri_low (a s : Nat) (h : a < 2147483648) : wrap32 (a : Int) / 2 ^ s % 4294967296 = ((a / 2 ^ s : Nat) : Int) := by
  rw [wrap_low a h, show ((a : Int) / 2 ^ s) = ((a / 2 ^ s : Nat) : Int) from by push_cast; rfl]
  have := Nat.div_le_self a (2 ^ s)
  generalize a / 2 ^ s = q at *
  omega
theorem shri_high (a s : Nat) (h : 2147483648 ≤ a) (h2 : a ≤ 4294967295) : wrap32 (a : Int) / 2 ^ s % 4294967296 = ((4294967295 - (4294967295 - a) / 2 ^ s : Nat) : Int) := by
  rw [wrap_high a h h2]
  have hp : (0 : Int) < 2 ^ s := Int.pow_pos (by decide)
  have e1 : (a : Int) - 4294967296 = -((4294967295 - a : Nat) : Int) - 1 := by omega
  have hle := Nat.div_le_self (4294967295 - a) (2 ^ s)
  have hy : 4294967295 - a ≤ 4294967295 := by omega
  generalize 4294967295 - a = y at *
  have e2 : (-(y : Int) - 1) / 2 ^ s = -((y / 2 ^ s : Nat) : Int) - 1 := by
    have h3 : ((y / 2 ^ s : Nat) : Int) = (y : Int) / 2 ^ s := by push_cast; rfl
    rw [h3]
    have h4 := Int.mul_ediv_add_emod (y : Int) (2 ^ s)
    have h5 := Int.emod_nonneg (y : Int) (Int.ne_of_gt hp)
    have h6 := Int.emod_lt_of_pos (y : Int) hp
    generalize (y : Int) / 2 ^ s = q at *
    generalize (y : Int) % 2 ^ s = r at *
    have e3 : -(y : Int) - 1 = (2 ^ s - 1 - r) + 2 ^ s * (-q - 1) := by
      rw [← h4, Int.mul_sub, Int.mul_neg, Int.mul_one]; omega
    rw [e3, Int.add_mul_ediv_left _ _ (Int.ne_of_gt hp), Int.ediv_eq_zero_of_lt (by omega) (by omega)]
    omega
  rw [e1, e2]
  clear e1 e2
  generalize y / 2 ^ s = q at *
  omega

/-! ### Quotients with signs -/
theorem wrap_mod (x : Int) : wrap32 x % 4294967296 = x % 4294967296 := by unfold wrap32; omega
theorem nat_mod (a : Nat) (h : a ≤ 4294967295) : (a : Int) % 4294967296 = a := by omega
theorem quot_back (a b q r : Nat) (ha : a ≤ 4294967295) (hb : b ≤ 4294967295) (hq : wrap32 ((wrap32 (a : Int)).tdiv (wrap32 (b : Int))) % 4294967296 = (q : Int))
    (hr : (wrap32 (a : Int)).tmod (wrap32 (b : Int)) % 4294967296 = (r : Int)) : (q * b % 4294967296 + r) % 4294967296 = a := by
  have h1 := Int.mul_tdiv_add_tmod (wrap32 (a : Int)) (wrap32 (b : Int))
  have w1 : (wrap32 (a : Int)) % 4294967296 = (a : Int) := by rw [wrap_mod, nat_mod a ha]
  have w2 : (wrap32 (b : Int)) % 4294967296 = (b : Int) := by rw [wrap_mod, nat_mod b hb]
  rw [wrap_mod] at hq
  generalize wrap32 (a : Int) = A at *
  generalize wrap32 (b : Int) = B at *
  generalize A.tdiv B = Q at *
  generalize A.tmod B = R at *
  have h2 : (((q * b % 4294967296 + r) % 4294967296 : Nat) : Int) = (a : Int) := by
    have e1 : (((q * b % 4294967296 + r) % 4294967296 : Nat) : Int) = ((q : Int) * b + r) % 4294967296 := by
      rw [Int.natCast_emod, Int.natCast_add, Int.natCast_emod, Int.natCast_mul]
      exact Int.emod_add_emod _ _ _
    rw [e1, ← hq, ← hr, ← w2, ← w1, ← h1, Int.mul_comm B Q]
    rw [Int.add_emod, ← Int.mul_emod, Int.emod_emod, ← Int.add_emod]
  exact_mod_cast h2

theorem quot_back_nat (a b : Nat) (ha : a ≤ 4294967295) : (a / b * b % 4294967296 + a % b) % 4294967296 = a := by
  have h1 := Nat.div_add_mod a b
  rw [Nat.mul_comm] at h1
  generalize a / b * b = x at *
  generalize a % b = y at *
  omega
/-- The rest: below the divisor in size, of the word's sign. -/
theorem rest_of (A B : Int) (hB : ¬ B = 0) : (0 < A.tmod B → 0 ≤ A) ∧ (A.tmod B < 0 → A < 0) ∧ (A.tmod B < B ∨ A.tmod B < -B) ∧ (-(A.tmod B) < B ∨ -(A.tmod B) < -B) := by
  have h := Int.natAbs_tmod A B
  have h2 : (A.tmod B).natAbs < B.natAbs := by rw [h]; exact Nat.mod_lt _ (by omega)
  refine ⟨fun h => ?_, fun h => ?_, by omega, by omega⟩
  · refine Int.not_lt.1 fun hn => ?_
    have := Int.tmod_nonneg B (show 0 ≤ -A by omega)
    rw [Int.neg_tmod] at this
    omega
  · refine Int.not_le.1 fun hn => ?_
    have := Int.tmod_nonneg B hn
    omega
theorem wrap_back (R : Int) (r : Nat) (h1 : -2147483648 ≤ R) (h2 : R ≤ 2147483647) (h : R % 4294967296 = (r : Int)) : wrap32 (r : Int) = R := by unfold wrap32; omega
theorem wrap_in (x : Int) : -2147483648 ≤ wrap32 x ∧ wrap32 x ≤ 2147483647 := by unfold wrap32; omega
theorem tmod_in (A B : Int) (hA : -2147483648 ≤ A) (hA2 : A ≤ 2147483647) : -2147483648 ≤ A.tmod B ∧ A.tmod B ≤ 2147483647 := by
  have h := Int.natAbs_tmod A B
  have h2 : A.natAbs % B.natAbs ≤ A.natAbs := Nat.mod_le _ _
  by_cases h0 : 0 ≤ A
  · have := Int.tmod_nonneg B h0
    omega
  · have := Int.tmod_nonneg B (show 0 ≤ -A by omega)
    rw [Int.neg_tmod] at this
    omega

/-! ### One of three -/
theorem many_any (x y z : Bool) (n : Nat) (h : x.toNat + y.toNat + z.toNat = n) (w : World) :
    Calls Try.prog 29 #[.bool x, .bool y, .bool z] w fun e w' => e = .returned (.int .i64 (n : Nat)) ∧ w = w' := by
  subst h
  cases x <;> cases y <;> cases z
  all_goals
    go_enter Try.func29, Try.ntmps29
    go_wp2
    go_ret
    exact ⟨rfl, rfl⟩
theorem three_int (x y : Int) (e : Bool) (he : e = decide (x = y)) : (decide (x < y)).toNat + e.toNat + (decide (y < x)).toNat = 1 := by
  subst he
  rcases Int.lt_trichotomy x y with h | h | h
  · rw [decide_eq_true h, decide_eq_false (by omega), decide_eq_false (by omega)]; rfl
  · rw [decide_eq_false (by omega), decide_eq_true h, decide_eq_false (by omega)]; rfl
  · rw [decide_eq_false (by omega), decide_eq_false (by omega), decide_eq_true h]; rfl
theorem three_nat (x y : Nat) : (decide (x < y)).toNat + (decide (x = y)).toNat + (decide (y < x)).toNat = 1 := by
  rcases Nat.lt_trichotomy x y with h | h | h
  · rw [decide_eq_true h, decide_eq_false (by omega), decide_eq_false (by omega)]; rfl
  · rw [decide_eq_false (by omega), decide_eq_true h, decide_eq_false (by omega)]; rfl
  · rw [decide_eq_false (by omega), decide_eq_false (by omega), decide_eq_true h]; rfl
theorem wrap_inj (a b : Nat) (ha : a ≤ 4294967295) (hb : b ≤ 4294967295) : decide (a = b) = decide (wrap32 (a : Int) = wrap32 (b : Int)) := by
  have h1 := wrap_mod (a : Int)
  have h2 := wrap_mod (b : Int)
  exact decide_eq_decide.2 ⟨fun h => by rw [h], fun h => by rw [h] at h1; omega⟩
/-- No side where one is no number. -/
theorem side_none (a b : Nat) : (2139095040 < a % 2147483648 ∨ 2139095040 < b % 2147483648) ∧ sideOf (single.order a b) = 1 ∨
    (¬ 2139095040 < a % 2147483648 ∧ ¬ 2139095040 < b % 2147483648) ∧ (sideOf (single.order a b) = 2 ∨ sideOf (single.order a b) = 3 ∨ sideOf (single.order a b) = 4) := by
  have h1 := isNaN_read single (by decide) a
  have h2 := isNaN_read single (by decide) b
  rw [single_inf, single_sign] at h1 h2
  unfold Format.order
  cases ha : single.read a with
  | nan s t =>
    rw [ha] at h1
    exact .inl ⟨.inl (of_decide_eq_true h1.symm), rfl⟩
  | infinity s =>
    rw [ha] at h1
    have n1 : ¬ 2139095040 < a % 2147483648 := of_decide_eq_false h1.symm
    cases hb : single.read b with
    | nan s t => rw [hb] at h2; exact .inl ⟨.inr (of_decide_eq_true h2.symm), rfl⟩
    | infinity t => rw [hb] at h2; exact .inr ⟨⟨n1, of_decide_eq_false h2.symm⟩, by cases s <;> cases t <;> decide⟩
    | number t n j => rw [hb] at h2; exact .inr ⟨⟨n1, of_decide_eq_false h2.symm⟩, by cases s <;> simp [Datum.order, sideOf]⟩
  | number s m i =>
    rw [ha] at h1
    have n1 : ¬ 2139095040 < a % 2147483648 := of_decide_eq_false h1.symm
    cases hb : single.read b with
    | nan s t => rw [hb] at h2; exact .inl ⟨.inr (of_decide_eq_true h2.symm), rfl⟩
    | infinity t => rw [hb] at h2; exact .inr ⟨⟨n1, of_decide_eq_false h2.symm⟩, by cases t <;> simp [Datum.order, sideOf]⟩
    | number t n j =>
      rw [hb] at h2
      refine .inr ⟨⟨n1, of_decide_eq_false h2.symm⟩, ?_⟩
      simp only [Datum.order]
      generalize compare (α := Int) _ _ = o
      cases o <;> decide

/-! ### Narrow words -/
theorem sex_le (a : Nat) : sex8 a ≤ 4294967295 ∧ sex16 a ≤ 4294967295 := by
  unfold sex8 sex16
  constructor
  · split <;> omega
  · split <;> omega
theorem narrow_low (a : Nat) : sex8 a % 256 = a % 256 ∧ sex16 a % 65536 = a % 65536 := by
  unfold sex8 sex16
  constructor
  · split <;> omega
  · split <;> omega
theorem sex8_of {a b : Nat} (h : a % 256 = b % 256) : sex8 a = sex8 b := by unfold sex8; rw [h]
theorem sex16_of {a b : Nat} (h : a % 65536 = b % 65536) : sex16 a = sex16 b := by unfold sex16; rw [h]
theorem narrow_same (a : Nat) : sex8 (sex8 a) = sex8 a ∧ sex16 (sex8 a) = sex8 a ∧ sex16 (sex16 a) = sex16 a ∧ sex8 (sex16 a) = sex8 a := by
  refine ⟨sex8_of (narrow_low a).1, ?_, sex16_of (narrow_low a).2, sex8_of ?_⟩
  · unfold sex8 sex16
    by_cases h : a % 256 < 128
    · rw [if_pos h, if_pos (by omega)]; omega
    · rw [if_neg h, if_neg (by omega)]; omega
  · have := (narrow_low a).2
    omega
theorem narrow_back (a : Nat) : wrap32 ((a * 2 ^ (24 % 32) % 4294967296 : Nat) : Int) / 2 ^ (24 % 32) % 4294967296 = (sex8 a : Int) ∧ wrap32 ((a * 2 ^ (16 % 32) % 4294967296 : Nat) : Int) / 2 ^ (16 % 32) % 4294967296 = (sex16 a : Int) := by
  simp only [Nat.reduceMod, Nat.reducePow, Int.reducePow]
  unfold sex8 sex16 wrap32
  constructor
  · by_cases h : a % 256 < 128
    · rw [if_pos h]; omega
    · rw [if_neg h]; omega
  · by_cases h : a % 65536 < 32768
    · rw [if_pos h]; omega
    · rw [if_neg h]; omega
end Go.Proofs.Ytfgbjaejkfkmmaa
