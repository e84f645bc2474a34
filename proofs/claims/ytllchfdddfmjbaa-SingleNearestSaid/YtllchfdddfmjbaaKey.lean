/- Plain law: words of binary32 stand as their signed rungs do; the next word has the next rung. -/
import Derived.Test.YtllchfdddfmjbaaExact
import Derived.Test.YtllchfdddfmjbaaStandB
import Derived.Test.YtllchfdddfmjbaaStep
namespace Go.Proofs.Ytllchfdddfmjbaa
open Ieee

/-- The signed rung of a word. -/
def keyW (a : Nat) : Int := if a < 2147483648 then ((a % 2147483648 : Nat) : Int) else -((a % 2147483648 : Nat) : Int)
/-- Is a word no number? -/
def NoNum (a : Nat) : Prop := 2139095040 < a % 2147483648

theorem sgn_cmp (s t : Bool) (X Y r q : Nat) (h : (X < Y ∧ r < q) ∨ (X = Y ∧ r = q) ∨ (Y < X ∧ q < r)) (h1 : (X = 0 ∧ r = 0) ∨ (0 < X ∧ 0 < r)) (h2 : (Y = 0 ∧ q = 0) ∨ (0 < Y ∧ 0 < q)) :
    compare (if s then -(X : Int) else X) (if t then -(Y : Int) else Y) = compare (if s then -(r : Int) else r) (if t then -(q : Int) else q) := by
  cases s <;> cases t <;> simp only [if_true, if_neg Bool.false_ne_true]
  · rcases h with h | h | h
    · rw [cmp_lt (by omega), cmp_lt (by omega)]
    · rw [cmp_eq (by omega), cmp_eq (by omega)]
    · rw [cmp_gt (by omega), cmp_gt (by omega)]
  · rcases h1 with h1 | h1 <;> rcases h2 with h2 | h2
    · rw [cmp_eq (by omega), cmp_eq (by omega)]
    · rw [cmp_gt (by omega), cmp_gt (by omega)]
    · rw [cmp_gt (by omega), cmp_gt (by omega)]
    · rw [cmp_gt (by omega), cmp_gt (by omega)]
  · rcases h1 with h1 | h1 <;> rcases h2 with h2 | h2
    · rw [cmp_eq (by omega), cmp_eq (by omega)]
    · rw [cmp_lt (by omega), cmp_lt (by omega)]
    · rw [cmp_lt (by omega), cmp_lt (by omega)]
    · rw [cmp_lt (by omega), cmp_lt (by omega)]
  · rcases h with h | h | h
    · rw [cmp_gt (by omega), cmp_gt (by omega)]
    · rw [cmp_eq (by omega), cmp_eq (by omega)]
    · rw [cmp_lt (by omega), cmp_lt (by omega)]

theorem key_form (a : Nat) (ha : a ≤ 4294967295) : keyW a = if (a / 2147483648 % 2 == 1) then -((a % 2147483648 : Nat) : Int) else ((a % 2147483648 : Nat) : Int) := by
  unfold keyW
  by_cases h : a < 2147483648
  · rw [if_pos h, show (a / 2147483648 % 2 == 1) = false from by rw [beq_eq_false_iff_ne]; omega]; rfl
  · rw [if_neg h, show (a / 2147483648 % 2 == 1) = true from by rw [beq_iff_eq]; omega]; rfl

theorem read_inf_word (a : Nat) (h : a % 2147483648 = 2139095040) : single.read a = .infinity (a / 2147483648 % 2 == 1) := by
  unfold Format.read
  rw [single_sign, single_inf, s_b]
  simp only
  rw [h, if_neg (by decide), if_neg (by decide), if_pos rfl]

theorem read_fin_word (a : Nat) (h : a % 2147483648 < 2139095040) :
    ∃ m k : Nat, single.read a = .number (a / 2147483648 % 2 == 1) m (-149 + k) ∧ V single (a % 2147483648) = m * 2 ^ k := by
  obtain ⟨m, k, h1, h2, -, -⟩ := read_fin single a (by rw [single_sign, single_inf]; exact h)
  rw [single_sign] at h1 h2
  rw [s_l] at h1
  exact ⟨m, k, h1, h2⟩

theorem V_zero : V single 0 = 0 := by decide
theorem V_pos {r : Nat} (h : 0 < r) : 0 < V single r := by have := V_strict single h; omega

theorem order_key (a b : Nat) (ha : a ≤ 4294967295) (hb : b ≤ 4294967295) (na : ¬ NoNum a) (nb : ¬ NoNum b) : single.order a b = some (compare (keyW a) (keyW b)) := by
  unfold NoNum at na nb
  rw [key_form a ha, key_form b hb]
  unfold Format.order
  by_cases h1 : a % 2147483648 = 2139095040
  · rw [read_inf_word a h1, h1]
    by_cases h2 : b % 2147483648 = 2139095040
    · rw [read_inf_word b h2, h2]
      cases (a / 2147483648 % 2 == 1) <;> cases (b / 2147483648 % 2 == 1) <;> decide
    · obtain ⟨m, k, h3, -⟩ := read_fin_word b (by omega)
      rw [h3]
      generalize b % 2147483648 = q at *
      cases (a / 2147483648 % 2 == 1) <;> cases (b / 2147483648 % 2 == 1) <;> simp only [Datum.order, if_true, if_neg Bool.false_ne_true]
      · rw [cmp_gt (by omega)]
      · rw [cmp_gt (by omega)]
      · rw [cmp_lt (by omega)]
      · rw [cmp_lt (by omega)]
  · obtain ⟨m, k, h3, h4⟩ := read_fin_word a (by omega)
    rw [h3]
    by_cases h2 : b % 2147483648 = 2139095040
    · rw [read_inf_word b h2, h2]
      generalize a % 2147483648 = q at *
      cases (a / 2147483648 % 2 == 1) <;> cases (b / 2147483648 % 2 == 1) <;> simp only [Datum.order, if_true, if_neg Bool.false_ne_true]
      · rw [cmp_lt (by omega)]
      · rw [cmp_gt (by omega)]
      · rw [cmp_lt (by omega)]
      · rw [cmp_gt (by omega)]
    · obtain ⟨n, l, h5, h6⟩ := read_fin_word b (by omega)
      rw [h5]
      generalize a % 2147483648 = r at *
      generalize b % 2147483648 = q at *
      rw [num_order _ _ m n (m * 2 ^ (k - min k l)) (n * 2 ^ (l - min k l)) _ _ (-149 + ((min k l : Nat) : Int)) (by omega)
        (by rw [show (-149 + (k : Int) - (-149 + ((min k l : Nat) : Int))).toNat = k - min k l from by omega])
        (by rw [show (-149 + (l : Int) - (-149 + ((min k l : Nat) : Int))).toNat = l - min k l from by omega])]
      congr 1
      have eX : m * 2 ^ (k - min k l) * 2 ^ min k l = V single r := by rw [Nat.mul_assoc, ← Nat.pow_add, h4]; congr 2; omega
      have eY : n * 2 ^ (l - min k l) * 2 ^ min k l = V single q := by rw [Nat.mul_assoc, ← Nat.pow_add, h6]; congr 2; omega
      have hT : 0 < 2 ^ min k l := Nat.two_pow_pos _
      generalize m * 2 ^ (k - min k l) = X at *
      generalize n * 2 ^ (l - min k l) = Y at *
      generalize 2 ^ min k l = T at *
      refine sgn_cmp _ _ X Y r q ?_ ?_ ?_
      · rcases Nat.lt_trichotomy r q with h | h | h
        · left; have := V_strict single h; rw [← eX, ← eY] at this; exact ⟨Nat.lt_of_mul_lt_mul_right this, h⟩
        · right; left; subst h; exact ⟨Nat.eq_of_mul_eq_mul_right hT (by rw [eX, eY]), rfl⟩
        · right; right; have := V_strict single h; rw [← eX, ← eY] at this; exact ⟨Nat.lt_of_mul_lt_mul_right this, h⟩
      · rcases Nat.eq_zero_or_pos r with h | h
        · left; subst h; rw [V_zero] at eX; exact ⟨(Nat.mul_eq_zero.1 eX).resolve_right (by omega), rfl⟩
        · right; have := V_pos h; rw [← eX] at this; exact ⟨Nat.pos_of_mul_pos_right this, h⟩
      · rcases Nat.eq_zero_or_pos q with h | h
        · left; subst h; rw [V_zero] at eY; exact ⟨(Nat.mul_eq_zero.1 eY).resolve_right (by omega), rfl⟩
        · right; have := V_pos h; rw [← eY] at this; exact ⟨Nat.pos_of_mul_pos_right this, h⟩

theorem order_none (a b : Nat) (h : NoNum a ∨ NoNum b) : single.order a b = none := by
  unfold NoNum at h
  have h1 := isNaN_read single (by decide) a
  have h2 := isNaN_read single (by decide) b
  rw [single_inf, single_sign] at h1 h2
  unfold Format.order
  rcases h with h | h
  · rw [decide_eq_true h] at h1
    cases ha : single.read a with
    | nan s t => rfl
    | infinity s => rw [ha] at h1; cases h1
    | number s m i => rw [ha] at h1; cases h1
  · rw [decide_eq_true h] at h2
    cases hb : single.read b with
    | nan s t => cases single.read a <;> rfl
    | infinity s => rw [hb] at h2; cases h2
    | number s m i => rw [hb] at h2; cases h2

/-! ### Sides by keys -/
theorem side_lt (a b : Nat) (ha : a ≤ 4294967295) (hb : b ≤ 4294967295) (na : ¬ NoNum a) (nb : ¬ NoNum b) (h : keyW a < keyW b) : sideOf (single.order a b) = 2 := by rw [order_key a b ha hb na nb, cmp_lt h]; rfl
theorem side_eq (a b : Nat) (ha : a ≤ 4294967295) (hb : b ≤ 4294967295) (na : ¬ NoNum a) (nb : ¬ NoNum b) (h : keyW a = keyW b) : sideOf (single.order a b) = 3 := by rw [order_key a b ha hb na nb, cmp_eq h]; rfl
theorem side_gt (a b : Nat) (ha : a ≤ 4294967295) (hb : b ≤ 4294967295) (na : ¬ NoNum a) (nb : ¬ NoNum b) (h : keyW b < keyW a) : sideOf (single.order a b) = 4 := by rw [order_key a b ha hb na nb, cmp_gt h]; rfl
theorem side_no (a b : Nat) (h : NoNum a ∨ NoNum b) : sideOf (single.order a b) = 1 := by rw [order_none a b h]; rfl

theorem above_key (a : Nat) (ha : a ≤ 4294967295) (na : ¬ NoNum a) (hi : a ≠ 2139095040) : ¬ NoNum (aboveW a) ∧ keyW (aboveW a) = keyW a + 1 := by
  unfold NoNum at *
  unfold aboveW
  rw [if_neg na, if_neg hi]
  by_cases h0 : a % 2147483648 = 0
  · rw [if_pos h0]; unfold keyW; rw [h0]
    refine ⟨by omega, ?_⟩
    rw [if_pos (by omega)]
    split <;> rfl
  · rw [if_neg h0]
    by_cases hs : a < 2147483648
    · rw [if_pos hs]; unfold keyW; rw [if_pos hs, if_pos (by omega)]
      omega
    · rw [if_neg hs]; unfold keyW; rw [if_neg hs]
      by_cases h2 : a = 2147483648
      · omega
      · rw [if_neg (by omega)]
        omega
theorem turn_key (a : Nat) (ha : a ≤ 4294967295) : keyW (turnW a) = -keyW a ∧ (NoNum (turnW a) ↔ NoNum a) := by
  unfold NoNum keyW turnW
  by_cases h : a < 2147483648
  · rw [if_pos h, if_pos h, if_neg (by omega)]
    constructor
    · omega
    · omega
  · rw [if_neg h, if_neg h, if_pos (by omega)]
    constructor
    · omega
    · omega
theorem below_key (a : Nat) (ha : a ≤ 4294967295) (na : ¬ NoNum a) (hi : a ≠ 4286578688) : ¬ NoNum (belowW a) ∧ keyW (belowW a) = keyW a - 1 := by
  have ht := turn_key a ha
  have hl := turnW_lt ha
  have hne : turnW a ≠ 2139095040 := by unfold turnW; split <;> omega
  have h1 := above_key (turnW a) hl (fun h => na (ht.2.1 h)) hne
  have h2 := turn_key (aboveW (turnW a)) (aboveW_lt hl)
  have hb : belowW a = turnW (aboveW (turnW a)) := by unfold belowW; rw [if_neg (show ¬ 2139095040 < a % 2147483648 from na)]
  rw [hb]
  exact ⟨fun h => h1.1 (h2.2.1 h), by rw [h2.1, h1.2, ht.1]; omega⟩
theorem key_inj (a b : Nat) (ha : a ≤ 4294967295) (hb : b ≤ 4294967295) (h : keyW a = keyW b) (h0 : a % 2147483648 ≠ 0) : a = b := by
  unfold keyW at h
  split at h <;> split at h <;> omega
theorem key_bound (a : Nat) (na : ¬ NoNum a) : -2139095040 ≤ keyW a ∧ keyW a ≤ 2139095040 := by
  unfold NoNum at na
  unfold keyW
  split <;> omega
theorem belowW_lt {a : Nat} (h : a ≤ 4294967295) : belowW a ≤ 4294967295 := by
  unfold belowW
  split
  · omega
  · exact turnW_lt (aboveW_lt (turnW_lt h))
end Go.Proofs.Ytllchfdddfmjbaa
