/- Plain laws: operands changed over, signs turned. -/
import Derived.Test.YtllchfdddfmjbaaAwake
namespace Go.Proofs.Ytllchfdddfmjbaa
open Ieee

/-- Of no number the one NaN. -/
def oneW (x : Nat) : Nat := if 2139095040 < x % 2147483648 then 2143289344 else x

theorem s_bin' : single.binade = 8388608 := by decide
theorem s_least' : single.leastPlace = -149 := by decide

theorem turn_mod (a : Nat) (h : a ≤ 4294967295) : turnW a % 2147483648 = a % 2147483648 := by
  unfold turnW; split <;> omega
theorem turn_sign (a : Nat) (h : a ≤ 4294967295) : (turnW a / 2147483648 % 2 == 1) = !(a / 2147483648 % 2 == 1) := by
  unfold turnW
  by_cases ha : a < 2147483648
  · rw [if_pos ha, show (a + 2147483648) / 2147483648 % 2 = 1 from by omega, show a / 2147483648 % 2 = 0 from by omega]; rfl
  · rw [if_neg ha, show (a - 2147483648) / 2147483648 % 2 = 0 from by omega, show a / 2147483648 % 2 = 1 from by omega]; rfl

theorem read_turn (a : Nat) (h : a ≤ 4294967295) : single.read (turnW a) = (single.read a).opposite := by
  unfold Format.read
  rw [single_sign, single_inf, s_bin', s_least']
  simp only
  rw [turn_mod a h, turn_sign a h]
  generalize a % 2147483648 = r
  by_cases h1 : r < 8388608
  · rw [if_pos h1, if_pos h1]; rfl
  · rw [if_neg h1, if_neg h1]
    by_cases h2 : r < 2139095040
    · rw [if_pos h2, if_pos h2]; rfl
    · rw [if_neg h2, if_neg h2]
      by_cases h3 : r = 2139095040
      · rw [if_pos h3, if_pos h3]; rfl
      · rw [if_neg h3, if_neg h3]; rfl

theorem product_opp_left (d e : Datum) : d.opposite.product e = (d.product e).map Datum.opposite := by
  cases d <;> cases e <;> simp only [Datum.opposite, Datum.product, Option.map_none, Option.map_some, Bool.not_bne]
  · split <;> simp [Datum.opposite]
  · split <;> simp [Datum.opposite]
theorem product_comm (d e : Datum) : d.product e = e.product d := by
  cases d <;> cases e <;> simp only [Datum.product, Bool.xor_comm, Nat.mul_comm, Int.add_comm]
theorem product_opp_right (d e : Datum) : d.product e.opposite = (d.product e).map Datum.opposite := by
  rw [product_comm, product_opp_left, product_comm]
theorem quotient_opp_left (k : Nat) (d e : Datum) : d.opposite.quotient k e = (d.quotient k e).map Datum.opposite := by
  cases d <;> cases e <;> simp only [Datum.opposite, Datum.quotient, Option.map_none, Option.map_some, Bool.not_xor]
  split
  · split <;> simp [Datum.opposite]
  · simp [Datum.opposite]
theorem quotient_opp_right (k : Nat) (d e : Datum) : d.quotient k e.opposite = (d.quotient k e).map Datum.opposite := by
  cases d <;> cases e <;> simp only [Datum.opposite, Datum.quotient, Option.map_none, Option.map_some, Bool.xor_not]
  split
  · split <;> simp [Datum.opposite]
  · simp [Datum.opposite]
theorem sum_comm (d e : Datum) : d.sum e = e.sum d := by
  cases d with
  | nan s t => cases e <;> rfl
  | infinity s =>
    cases e with
    | nan t f => rfl
    | infinity t => cases s <;> cases t <;> rfl
    | number t n j => rfl
  | number s m i =>
    cases e with
    | nan t f => rfl
    | infinity t => rfl
    | number t n j =>
      simp only [Datum.sum]
      rw [Int.min_comm i j, Int.add_comm (signed s m _), Bool.and_comm]

theorem word_turned (s : Bool) (r : Nat) (h : r < 2147483648) : single.word (!s) r = turnW (single.word s r) := by
  unfold Format.word turnW
  rw [single_sign]
  cases s
  · rw [Bool.not_false, if_pos rfl, if_neg Bool.false_ne_true, if_pos h]; omega
  · rw [Bool.not_true, if_pos rfl, if_neg Bool.false_ne_true, if_neg (by omega)]; omega
theorem wmod (s : Bool) (r : Nat) (h : r < 2147483648) : single.word s r % 2147483648 = r := by
  unfold Format.word
  rw [single_sign]
  split <;> omega

/-- A number's word: a sign and a rung. -/
theorem write_form (d : Datum) (h : d.isNaN = false) : ∃ s r, r ≤ 2139095040 ∧ single.write d = single.word s r ∧ single.write d.opposite = single.word (!s) r := by
  cases d with
  | number s m p =>
    refine ⟨s, rungOf single m p, ?_, nearest_eq single s m p, nearest_eq single (!s) m p⟩
    have := rungOf_le_inf single m p
    rw [single_inf] at this
    exact this
  | infinity s => exact ⟨s, 2139095040, by omega, by rw [← single_inf]; rfl, by rw [← single_inf]; rfl⟩
  | nan s t => exact absurd h (by simp [Datum.isNaN])

theorem oneW_low (x : Nat) (h : x % 2147483648 ≤ 2139095040) : oneW x = x := by unfold oneW; rw [if_neg (by omega)]

theorem write_opposite (d : Datum) (h : d.isNaN = false) : single.write d.opposite = oneW (turnW (single.write d)) := by
  obtain ⟨s, r, hr, h1, h2⟩ := write_form d h
  rw [h1, h2, ← word_turned s r (by omega), oneW_low]
  rw [wmod _ _ (by omega)]; exact hr

theorem oneNaN_turn : oneW (turnW oneNaN) = oneNaN := by decide

theorem result_turn (o : Option Datum) (ho : ∀ d, o = some d → d.isNaN = false) : ((o.map Datum.opposite).map single.write).getD oneNaN = oneW (turnW ((o.map single.write).getD oneNaN)) := by
  cases o with
  | none => exact oneNaN_turn.symm
  | some d => exact write_opposite d (ho d rfl)

theorem productW_comm (a b : Nat) : productW a b = productW b a := by unfold productW Format.mul; rw [product_comm]
theorem sumW_comm (a b : Nat) : sumW a b = sumW b a := by unfold sumW Format.add; rw [sum_comm]
theorem restW_turn (a b : Nat) (h : b ≤ 4294967295) : restW a b = sumW a (turnW b) := by unfold restW sumW Format.sub Format.add; rw [read_turn b h]
theorem productW_left (a b : Nat) (h : a ≤ 4294967295) : productW (turnW a) b = oneW (turnW (productW a b)) := by
  unfold productW Format.mul
  rw [read_turn a h, product_opp_left, result_turn _ fun _ => product_notNaN]
theorem productW_right (a b : Nat) (h : b ≤ 4294967295) : productW a (turnW b) = oneW (turnW (productW a b)) := by
  unfold productW Format.mul
  rw [read_turn b h, product_opp_right, result_turn _ fun _ => product_notNaN]
theorem ratioW_left (a b : Nat) (h : a ≤ 4294967295) : ratioW (turnW a) b = oneW (turnW (ratioW a b)) := by
  unfold ratioW Format.div
  rw [read_turn a h, quotient_opp_left, result_turn _ fun _ => quotient_notNaN]
theorem ratioW_right (a b : Nat) (h : b ≤ 4294967295) : ratioW a (turnW b) = oneW (turnW (ratioW a b)) := by
  unfold ratioW Format.div
  rw [read_turn b h, quotient_opp_right, result_turn _ fun _ => quotient_notNaN]

theorem signed_not (s : Bool) (m k : Nat) : signed (!s) m k = -signed s m k := by unfold signed; cases s <;> simp

theorem sum_opp (d e : Datum) : (∃ s p, d.sum e = some (.number s 0 p)) ∨ d.opposite.sum e.opposite = (d.sum e).map Datum.opposite := by
  cases d with
  | nan s t => exact .inr (by cases e <;> rfl)
  | infinity s =>
    cases e with
    | nan t f => exact .inr rfl
    | infinity t => exact .inr (by cases s <;> cases t <;> rfl)
    | number t n j => exact .inr rfl
  | number s m i =>
    cases e with
    | nan t f => exact .inr rfl
    | infinity t => exact .inr rfl
    | number t n j =>
      by_cases h0 : signed s m (i - min i j).toNat + signed t n (j - min i j).toNat = 0
      · left
        refine ⟨s && t, min i j, ?_⟩
        simp only [Datum.sum]
        rw [if_pos h0, h0]
        rfl
      · right
        simp only [Datum.opposite, Datum.sum, signed_not, Option.map_some]
        generalize signed s m (i - min i j).toNat = x at *
        generalize signed t n (j - min i j).toNat = y at *
        rw [if_neg h0, if_neg (by omega), show (-x + -y).natAbs = (x + y).natAbs from by omega]
        by_cases hl : x + y < 0
        · rw [decide_eq_true hl, decide_eq_false (show ¬ (-x + -y < 0) from by omega)]; rfl
        · rw [decide_eq_false hl, decide_eq_true (show -x + -y < 0 from by omega)]; rfl

theorem sumW_turn (a b : Nat) (ha : a ≤ 4294967295) (hb : b ≤ 4294967295) : sumW a b % 2147483648 = 0 ∨ sumW (turnW a) (turnW b) = oneW (turnW (sumW a b)) := by
  unfold sumW Format.add
  rw [read_turn a ha, read_turn b hb]
  rcases sum_opp (single.read a) (single.read b) with ⟨s, p, h⟩ | h
  · left
    rw [h]
    show single.write (.number s 0 p) % 2147483648 = 0
    show single.nearest s 0 p % 2147483648 = 0
    rw [nearest_eq, show rungOf single 0 p = 0 from rfl, wmod _ _ (by omega)]
  · right
    rw [h, result_turn _ fun _ => sum_notNaN]
end Go.Proofs.Ytllchfdddfmjbaa
