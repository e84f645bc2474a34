/- Plain laws: the values of words; sums, products and roots by values. -/
import Derived.Test.YtllchfdddfmjbaaWhole
import Derived.Test.YtllchfdddfmjbaaOneP
import Derived.Test.YtllchfdddfmjbaaRootB
namespace Go.Proofs.Ytllchfdddfmjbaa
open Ieee

def Fin32 (a : Nat) : Prop := a % 2147483648 < 2139095040
/-- The value of a word, in units of the least place. -/
def sval (a : Nat) : Int := if (a / 2147483648 % 2 == 1) then -(V single (a % 2147483648) : Int) else (V single (a % 2147483648) : Int)
/-- The signed rung of T * 2 ^ P. -/
def keyR (P T : Int) : Int := if T < 0 then -(rungOf single T.natAbs P : Int) else (rungOf single T.natAbs P : Int)

theorem rung_shift (n j : Nat) (P : Int) : rungOf single n (P + j) = rungOf single (n * 2 ^ j) P := by
  have e : n * 2 ^ (P + j - single.leastPlace).toNat * 2 ^ (single.leastPlace - P).toNat = n * 2 ^ j * 2 ^ (P - single.leastPlace).toNat * 2 ^ (single.leastPlace - (P + j)).toNat := by
    rw [Nat.mul_assoc, Nat.mul_assoc, Nat.mul_assoc, ← Nat.pow_add, ← Nat.pow_add, ← Nat.pow_add]
    congr 2
    omega
  exact Nat.le_antisymm (rungOf_mono single (by decide) _ _ _ _ (Nat.le_of_eq e)) (rungOf_mono single (by decide) _ _ _ _ (Nat.le_of_eq e.symm))
theorem rung_le (P : Int) {a b : Nat} (h : a ≤ b) : rungOf single a P ≤ rungOf single b P :=
  rungOf_mono single (by decide) _ _ _ _ (Nat.mul_le_mul_right _ (Nat.mul_le_mul_right _ h))
theorem rung_zero (P : Int) : rungOf single 0 P = 0 := rfl
theorem rung_inf (n : Nat) (P : Int) : rungOf single n P ≤ 2139095040 := by have := rungOf_le_inf single n P; rwa [single_inf] at this

theorem keyR_mono (P : Int) {T U : Int} (h : T ≤ U) : keyR P T ≤ keyR P U := by
  unfold keyR
  by_cases hT : T < 0
  · rw [if_pos hT]
    by_cases hU : U < 0
    · rw [if_pos hU]
      have := rung_le P (show U.natAbs ≤ T.natAbs by omega)
      omega
    · rw [if_neg hU]; omega
  · rw [if_neg hT, if_neg (by omega)]
    have := rung_le P (show T.natAbs ≤ U.natAbs by omega)
    omega

/-- A word that rounds. -/
theorem near_key (sg : Bool) (n : Nat) (P : Int) (T : Int) (hn : n = T.natAbs) (hs : T ≠ 0 → sg = decide (T < 0)) :
    single.nearest sg n P ≤ 4294967295 ∧ ¬ NoNum (single.nearest sg n P) ∧ keyW (single.nearest sg n P) = keyR P T := by
  rw [nearest_eq]
  obtain ⟨h1, h2, h3⟩ := word_key sg (rungOf single n P) (rung_inf n P)
  refine ⟨h1, h2, ?_⟩
  rw [h3]
  subst hn
  unfold keyR
  by_cases hT : T = 0
  · subst hT
    rw [show (0 : Int).natAbs = 0 from rfl, rung_zero]
    split <;> split <;> rfl
  · rw [hs hT]
    by_cases hneg : T < 0
    · rw [decide_eq_true hneg, if_pos rfl, if_pos hneg]
    · rw [decide_eq_false hneg, if_neg Bool.false_ne_true, if_neg hneg]

theorem sval_of (a m k : Nat) (hV : V single (a % 2147483648) = m * 2 ^ k) : sval a = if (a / 2147483648 % 2 == 1) then -((m * 2 ^ k : Nat) : Int) else ((m * 2 ^ k : Nat) : Int) := by
  unfold sval; rw [hV]

theorem signed_val (s : Bool) (m k j : Nat) : signed s m k * (2 ^ j : Nat) = if s then -((m * 2 ^ (k + j) : Nat) : Int) else ((m * 2 ^ (k + j) : Nat) : Int) := by
  rw [signed_eq]
  have e : ((m * 2 ^ k : Nat) : Int) * (2 ^ j : Nat) = ((m * 2 ^ (k + j) : Nat) : Int) := by rw [← Int.natCast_mul, Nat.mul_assoc, ← Nat.pow_add]
  cases s
  · exact e
  · rw [if_pos rfl, if_pos rfl, Int.neg_mul, e]

theorem sum_key (a b : Nat) (ha : Fin32 a) (hb : Fin32 b) : ¬ NoNum (sumW a b) ∧ keyW (sumW a b) = keyR (-149) (sval a + sval b) := by
  obtain ⟨m, k, h1, h2⟩ := read_fin_word a ha
  obtain ⟨n, l, h3, h4⟩ := read_fin_word b hb
  have v1 := sval_of a m k h2
  have v2 := sval_of b n l h4
  unfold sumW Format.add
  rw [h1, h3]
  generalize (a / 2147483648 % 2 == 1) = s at *
  generalize (b / 2147483648 % 2 == 1) = t at *
  simp only [Datum.sum, Option.map_some, Option.getD_some]
  have e0 : min (-149 + (k : Int)) (-149 + (l : Int)) = -149 + ((min k l : Nat) : Int) := by omega
  rw [e0, show (-149 + (k : Int) - (-149 + ((min k l : Nat) : Int))).toNat = k - min k l from by omega, show (-149 + (l : Int) - (-149 + ((min k l : Nat) : Int))).toNat = l - min k l from by omega]
  have x1 := signed_val s m (k - min k l) (min k l)
  have x2 := signed_val t n (l - min k l) (min k l)
  rw [show k - min k l + min k l = k from by omega, ← v1] at x1
  rw [show l - min k l + min k l = l from by omega, ← v2] at x2
  have hz : sval a + sval b = (signed s m (k - min k l) + signed t n (l - min k l)) * (2 ^ (min k l) : Nat) := by rw [Int.add_mul, x1, x2]
  generalize signed s m (k - min k l) + signed t n (l - min k l) = x at *
  generalize min k l = j at *
  rw [hz]
  have hJ : (0 : Int) < (2 ^ j : Nat) := by have := Nat.two_pow_pos j; omega
  have hsg : x * (2 ^ j : Nat) ≠ 0 → (if x = 0 then (s && t) else decide (x < 0)) = decide (x * (2 ^ j : Nat) < 0) := by
    intro hne
    have hx : x ≠ 0 := fun h => hne (by rw [h, Int.zero_mul])
    rw [if_neg hx]
    refine decide_eq_decide.2 ⟨fun h => Int.mul_neg_of_neg_of_pos h hJ, fun h => Int.not_le.1 fun hc => ?_⟩
    have := Int.mul_nonneg hc (Int.le_of_lt hJ); omega
  show ¬ NoNum (single.nearest _ _ _) ∧ keyW (single.nearest _ _ _) = _
  rw [nearest_eq, rung_shift, ← nearest_eq]
  exact (near_key _ _ (-149) _ (by rw [Int.natAbs_mul, Int.natAbs_natCast]) hsg).2

theorem sval_abs (a : Nat) : (sval a).natAbs = V single (a % 2147483648) := by unfold sval; split <;> omega
theorem sval_neg (a : Nat) (h : sval a ≠ 0) : (a / 2147483648 % 2 == 1) = decide (sval a < 0) := by
  unfold sval at *
  cases (a / 2147483648 % 2 == 1)
  · rw [if_neg Bool.false_ne_true] at *; rw [decide_eq_false (by omega)]
  · rw [if_pos rfl] at *; rw [decide_eq_true (by omega)]

theorem product_key (a b : Nat) (ha : Fin32 a) (hb : Fin32 b) : ¬ NoNum (productW a b) ∧ keyW (productW a b) = keyR (-298) (sval a * sval b) := by
  obtain ⟨m, k, h1, h2⟩ := read_fin_word a ha
  obtain ⟨n, l, h3, h4⟩ := read_fin_word b hb
  unfold productW Format.mul
  rw [h1, h3]
  simp only [Datum.product, Option.map_some, Option.getD_some]
  show ¬ NoNum (single.nearest _ _ _) ∧ keyW (single.nearest _ _ _) = _
  rw [show -149 + (k : Int) + (-149 + (l : Int)) = -298 + ((k + l : Nat) : Int) from by omega, nearest_eq, rung_shift, ← nearest_eq]
  refine (near_key _ _ (-298) _ ?_ ?_).2
  · rw [Int.natAbs_mul, sval_abs, sval_abs, h2, h4, Nat.pow_add]; ac_rfl
  · intro hne
    have hx : sval a ≠ 0 := fun h => hne (by rw [h, Int.zero_mul])
    have hy : sval b ≠ 0 := fun h => hne (by rw [h, Int.mul_zero])
    rw [sval_neg a hx, sval_neg b hy]
    by_cases h5 : sval a < 0 <;> by_cases h6 : sval b < 0
    · have := Int.mul_pos_of_neg_of_neg h5 h6
      rw [decide_eq_true h5, decide_eq_true h6, decide_eq_false (by omega)]; rfl
    · have := Int.mul_neg_of_neg_of_pos h5 (show 0 < sval b by omega)
      rw [decide_eq_true h5, decide_eq_false h6, decide_eq_true (by omega)]; rfl
    · have := Int.mul_neg_of_pos_of_neg (show 0 < sval a by omega) h6
      rw [decide_eq_false h5, decide_eq_true h6, decide_eq_true (by omega)]; rfl
    · have := Int.mul_pos (show 0 < sval a by omega) (show 0 < sval b by omega)
      rw [decide_eq_false h5, decide_eq_false h6, decide_eq_false (by omega)]; rfl

/-- Words stand as their values do. -/
theorem sval_mono (a b : Nat) (ha : a ≤ 4294967295) (hb : b ≤ 4294967295) (h : keyW a ≤ keyW b) : sval a ≤ sval b := by
  rw [key_form a ha, key_form b hb] at h
  unfold sval
  generalize (a / 2147483648 % 2 == 1) = s at *
  generalize (b / 2147483648 % 2 == 1) = t at *
  generalize a % 2147483648 = r at *
  generalize b % 2147483648 = q at *
  cases s <;> cases t <;> simp only [if_true, if_neg Bool.false_ne_true] at *
  · have := V_mono single (show r ≤ q by omega); omega
  · have h1 : r = 0 := by omega
    have h2 : q = 0 := by omega
    subst h1 h2; rw [V_zero]; omega
  · omega
  · have := V_mono single (show q ≤ r by omega); omega
theorem sval_pos (a : Nat) (ha : a ≤ 4294967295) (h : 0 < keyW a) : 0 < sval a := by
  rw [key_form a ha] at h
  unfold sval
  generalize (a / 2147483648 % 2 == 1) = s at *
  cases s <;> simp only [if_true, if_neg Bool.false_ne_true] at *
  · have := V_pos (show 0 < a % 2147483648 by omega); omega
  · omega
end Go.Proofs.Ytllchfdddfmjbaa
