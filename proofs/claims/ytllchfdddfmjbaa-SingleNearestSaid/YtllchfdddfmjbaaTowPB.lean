/- Contract of the program's Toward; plain laws. -/
import Derived.Test.YtllchfdddfmjbaaSingle
import Derived.Test.YtllchfdddfmjbaaOrd
namespace Go.Proofs.Ytllchfdddfmjbaa
open Go.RowKit Ieee

/-- A number cut toward nought. -/
def truncN (m : Nat) (p : Int) : Nat := if 0 ≤ p then m * 2 ^ p.toNat else m / 2 ^ (-p).toNat
def clampI (v : Int) : Int := if 2147483647 < v then 2147483647 else if v < -2147483648 then -2147483648 else v
def towD : Datum → Int
  | .number s m p => clampI (if s then -(truncN m p : Int) else truncN m p)
  | .infinity s => if s then -2147483648 else 2147483647
  | .nan _ _ => 0

theorem cut_toward (s : Bool) (n drop : Nat) : Toward.zero.cut s n drop = n / 2 ^ drop := by
  unfold Toward.cut
  simp only [Nat.one_shiftLeft, Bool.toNat_false, Nat.add_zero]
  by_cases h : drop ≤ n.log2 + 2
  · rw [Nat.min_eq_left h]
  · rw [Nat.min_eq_right (by omega)]
    have h1 : n < 2 ^ (n.log2 + 1) := Nat.lt_log2_self
    have h2 : (2 : Nat) ^ (n.log2 + 1) ≤ 2 ^ (n.log2 + 2) := Nat.pow_le_pow_right (by omega) (by omega)
    have h3 : (2 : Nat) ^ (n.log2 + 1) ≤ 2 ^ drop := Nat.pow_le_pow_right (by omega) (by omega)
    rw [Nat.div_eq_of_lt (by omega), Nat.div_eq_of_lt (by omega)]

theorem toInt_num (s : Bool) (m : Nat) (p : Int) : (Datum.number s m p).toInt .zero = some (if s then -(truncN m p : Int) else truncN m p) := by
  simp only [Datum.toInt, Datum.integral, cut_toward, Nat.shiftLeft_eq]
  have : m * 2 ^ p.toNat / 2 ^ (-p).toNat = truncN m p := by
    unfold truncN
    by_cases h : 0 ≤ p
    · rw [if_pos h, show (-p).toNat = 0 from by omega, Nat.pow_zero, Nat.div_one]
    · rw [if_neg h, show p.toNat = 0 from by omega, Nat.pow_zero, Nat.mul_one]
  rw [this]
  cases s
  · rw [signed_false]; rfl
  · rw [signed_true]; rfl

theorem read_great : single.read 1325400064 = .number false 8388608 8 := by decide +kernel
theorem read_small : single.read 3472883712 = .number true 8388608 8 := by decide +kernel

/-- A size against 2^31: by the cut number. -/
theorem against_31 (m : Nat) (p : Int) (hm : m < 16777216) : ∃ X Y : Nat, 0 < Y ∧ (∀ s t : Bool, (Datum.number s m p).order (.number t 8388608 8) = some (compare (if s then -(X : Int) else X) (if t then -(Y : Int) else Y))) ∧
    (X < Y ↔ truncN m p < 2147483648) ∧ (Y < X → 2147483648 < truncN m p) ∧ (X ≤ Y → truncN m p ≤ 2147483648) := by
  refine ⟨m * 2 ^ (p - min p 8).toNat, 8388608 * 2 ^ (8 - min p 8).toNat, Nat.mul_pos (by omega) (Nat.two_pow_pos _), fun s t => num_order s t m 8388608 _ _ p 8 _ rfl rfl rfl, ?_⟩
  by_cases h8 : 8 ≤ p
  · have e1 : (p - min p 8).toNat = (p - 8).toNat := by omega
    have e2 : (8 - min p 8).toNat = 0 := by omega
    rw [e1, e2]
    have e3 : truncN m p = m * 2 ^ (p - 8).toNat * 256 := by
      unfold truncN
      rw [if_pos (by omega), show p.toNat = (p - 8).toNat + 8 from by omega, Nat.pow_add, Nat.mul_assoc]
    rw [e3]
    generalize m * 2 ^ (p - 8).toNat = x
    rw [Nat.pow_zero, Nat.mul_one]
    omega
  · have e1 : (p - min p 8).toNat = 0 := by omega
    rw [e1, Nat.pow_zero, Nat.mul_one]
    by_cases h0 : 0 ≤ p
    · obtain ⟨k, rfl⟩ := Int.eq_ofNat_of_zero_le h0
      have e3 : truncN m (k : Int) = m * 2 ^ k := by unfold truncN; rw [if_pos (by omega), Int.toNat_natCast]
      have e2 : (8 - min (k : Int) 8).toNat = 8 - k := by omega
      rw [e3, e2]
      have hk : k = 0 ∨ k = 1 ∨ k = 2 ∨ k = 3 ∨ k = 4 ∨ k = 5 ∨ k = 6 ∨ k = 7 := by omega
      rcases hk with rfl | rfl | rfl | rfl | rfl | rfl | rfl | rfl <;> simp only [Nat.reduceSub, Nat.reducePow] <;> omega
    · have h1 : truncN m p ≤ m := by unfold truncN; rw [if_neg h0]; exact Nat.div_le_self _ _
      have h2 : 8388608 * 2 ^ 8 ≤ 8388608 * 2 ^ (8 - min p 8).toNat := Nat.mul_le_mul_left _ (Nat.pow_le_pow_right (by omega) (by omega))
      have h3 : (8388608 * 2 ^ 8 : Nat) = 2147483648 := by decide
      omega

theorem order_ge (a : Nat) (s : Bool) (m : Nat) (p : Int) (h : single.read a = .number s m p) (hm : m < 16777216) :
    (single.order a 1325400064 == some .gt || single.order a 1325400064 == some .eq) = (!s && decide (2147483648 ≤ truncN m p)) := by
  obtain ⟨X, Y, hY, ho, h1, -, -⟩ := against_31 m p hm
  unfold Format.order
  rw [h, read_great, ho]
  cases s
  · simp only [Bool.not_false, Bool.true_and, if_neg Bool.false_ne_true]
    by_cases hx : X < Y
    · rw [cmp_lt (by omega), decide_eq_false (by omega)]; rfl
    · rw [decide_eq_true (by omega)]
      by_cases hy : X = Y
      · rw [cmp_eq (by omega)]; rfl
      · rw [cmp_gt (by omega)]; rfl
  · simp only [Bool.not_true, Bool.false_and, if_true, if_neg Bool.false_ne_true]
    rw [cmp_lt (by omega)]; rfl

theorem order_lt (a : Nat) (s : Bool) (m : Nat) (p : Int) (h : single.read a = .number s m p) (hm : m < 16777216) :
    (single.order a 3472883712 == some .lt) = (s && decide (2147483648 < truncN m p)) := by
  obtain ⟨X, Y, hY, ho, h1, h2, h3⟩ := against_31 m p hm
  unfold Format.order
  rw [h, read_small, ho]
  cases s
  · simp only [Bool.false_and, if_true, if_neg Bool.false_ne_true]
    rw [cmp_gt (by omega)]; rfl
  · simp only [Bool.true_and, if_true]
    by_cases hx : Y < X
    · rw [cmp_lt (by omega), decide_eq_true (h2 hx)]; rfl
    · have := h3 (by omega)
      rw [decide_eq_false (by omega)]
      by_cases hy : X = Y
      · rw [cmp_eq (by omega)]; rfl
      · rw [cmp_gt (by omega)]; rfl
end Go.Proofs.Ytllchfdddfmjbaa
