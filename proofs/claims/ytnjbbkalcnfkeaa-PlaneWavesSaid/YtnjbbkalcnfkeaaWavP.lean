/- Plain laws: whole numbers of at most 2^53 in size are exact in binary64: sums, products, quotients that leave nothing. -/
import Derived.Test.YtnjbbkalcnfkeaaWavB
import Derived.Test.YtnjbbkalcnfkeaaExact
namespace Go.Proofs.Ytnjbbkalcnfkeaa
open Go.RowKit Ieee
set_option linter.unusedVariables false

theorem exE (k : Nat) : ∃ E : Nat, E = 2 ^ k ∧ 0 < E := ⟨_, rfl, Nat.two_pow_pos k⟩
noncomputable def E74 : Nat := Classical.choose (exE 1074)
theorem E74_eq : E74 = 2 ^ 1074 := (Classical.choose_spec (exE 1074)).1
theorem E74_pos : 0 < E74 := (Classical.choose_spec (exE 1074)).2
theorem twE {k e E : Nat} (h : k = e) (hE : E = 2 ^ e) : 2 ^ (k + 1) = 2 * E := by rw [hE, h, Nat.pow_succ']
theorem E74_twice {k : Nat} (h : k = 1074) : 2 ^ (k + 1) = 2 * E74 := twE h E74_eq
def LIM : Nat := 9007199254740992

/-- The datum stands for the whole number n (a zero's sign is free). -/
def WhD (d : Datum) (n : Int) : Prop := ∃ (s : Bool) (a k : Nat), d = .number s a (-1074 + (k : Int)) ∧ a * 2 ^ k = n.natAbs * E74 ∧ (n ≠ 0 → s = decide (n < 0)) ∧ a < LIM
def Wh (x : Nat) (n : Int) : Prop := WhD (double.read x) n

theorem dbl_rung (m : Nat) (h : m ≤ LIM) : ∃ r, r < double.infRung ∧ V double r = m * E74 := by
  unfold LIM at h
  have hr : ∃ r, V double r = m * E74 := by
    by_cases h1 : m < 9007199254740992
    · rw [E74_eq]; exact has_rung double 1074 m (by rw [d_b]; omega)
    · obtain ⟨k, hk⟩ : ∃ k, k = 1074 := ⟨_, rfl⟩
      obtain ⟨r, hr⟩ := has_rung double (k + 1) 4503599627370496 (by rw [d_b]; omega)
      refine ⟨r, ?_⟩
      rw [hr, E74_twice hk, show m = 4503599627370496 * 2 from by omega, Nat.mul_assoc]
  obtain ⟨r, hr⟩ := hr
  refine ⟨r, ?_, hr⟩
  refine rung_fin double ?_
  rw [hr, V_inf double (by decide), d_b, show 2 ^ double.exponentBits - 2 = 2046 from by decide]
  have h1 : m * E74 ≤ 9007199254740992 * E74 := Nat.mul_le_mul_right _ h
  exact Nat.lt_of_le_of_lt h1 (by rw [E74_eq]; decide +kernel)

theorem wh_write (n : Int) (hn : n.natAbs ≤ LIM) (s : Bool) (mag : Nat) (place : Int)
    (h : mag * 2 ^ (place + 1074).toNat = n.natAbs * E74 * 2 ^ (-1074 - place).toNat) (hs : n ≠ 0 → s = decide (n < 0)) : Wh (double.nearest s mag place) n := by
  obtain ⟨r, hr, hV⟩ := dbl_rung n.natAbs hn
  have e : double.nearest s mag place = double.word s r := by
    rw [nearest_eq, rungOf_exact double (by decide) mag place r (by omega)]
    rw [d_l, show (place - -1074) = place + 1074 from by omega, hV, h]
  obtain ⟨a, k, h1, h2, h3, -⟩ := read_word double s r hr
  unfold Wh
  rw [e, h1, d_l]
  exact ⟨s, a, k, rfl, by rw [← h2, hV], hs, by rw [d_b] at h3; unfold LIM; omega⟩

theorem wh_int (n : Int) (hn : n.natAbs ≤ LIM) : Wh (floatOfInt .f64 n) n := by
  show Wh (double.nearest (decide (n < 0)) n.natAbs 0) n
  exact wh_write n hn _ _ _ (by rw [show ((0 : Int) + 1074).toNat = 1074 from rfl, show (-1074 - (0 : Int)).toNat = 0 from rfl, Nat.pow_zero, Nat.mul_one, E74_eq]) (fun _ => rfl)

theorem wh_opp {d : Datum} {n : Int} (h : WhD d n) : WhD d.opposite (-n) := by
  obtain ⟨s, a, k, rfl, h1, h2, h3⟩ := h
  refine ⟨!s, a, k, rfl, by rw [Int.natAbs_neg]; exact h1, ?_, h3⟩
  intro hz
  rw [h2 (by omega)]
  by_cases hn : n < 0
  · rw [decide_eq_true hn, decide_eq_false (by omega)]; rfl
  · rw [decide_eq_false hn, decide_eq_true (by omega)]; rfl

theorem signed_wh {s : Bool} {a k j : Nat} {n : Int} (h1 : a * 2 ^ k = n.natAbs * E74) (h2 : n ≠ 0 → s = decide (n < 0)) (hj : j ≤ k) : signed s a (k - j) * (2 ^ j : Nat) = n * (E74 : Nat) := by
  have e0 : signed s a (k - j) = if s then -((a * 2 ^ (k - j) : Nat) : Int) else ((a * 2 ^ (k - j) : Nat) : Int) := by unfold signed; rw [Nat.shiftLeft_eq]
  have e1 : a * 2 ^ (k - j) * 2 ^ j = n.natAbs * E74 := by rw [Nat.mul_assoc, ← Nat.pow_add, show k - j + j = k from by omega, h1]
  have e : ((a * 2 ^ (k - j) : Nat) : Int) * (2 ^ j : Nat) = (n.natAbs : Int) * (E74 : Nat) := by rw [← Int.natCast_mul, ← Int.natCast_mul, e1]
  rw [e0]
  by_cases h0 : n = 0
  · subst h0
    have ea : a * 2 ^ (k - j) = 0 := by
      rw [Int.natAbs_zero, Nat.zero_mul] at e1
      exact (Nat.mul_eq_zero.1 e1).resolve_right (by have := Nat.two_pow_pos j; omega)
    rw [ea]
    cases s <;> simp
  · rw [h2 h0]
    generalize ((a * 2 ^ (k - j) : Nat) : Int) = X at *
    generalize ((2 ^ j : Nat) : Int) = J at *
    generalize ((E74 : Nat) : Int) = B at *
    by_cases hn : n < 0
    · rw [decide_eq_true hn, if_pos rfl, Int.neg_mul, e, ← Int.neg_mul]
      congr 1
      omega
    · rw [decide_eq_false hn, if_neg Bool.false_ne_true, e]
      congr 1
      omega

theorem wh_sum {d e : Datum} {n m : Int} (hd : WhD d n) (he : WhD e m) (hs : (n + m).natAbs ≤ LIM) : ∃ z, (d.sum e).map double.write = some z ∧ Wh z (n + m) := by
  obtain ⟨s, a, k, rfl, h1, h2, -⟩ := hd
  obtain ⟨t, b, l, rfl, h3, h4, -⟩ := he
  refine ⟨_, rfl, ?_⟩
  have e0 : min (-1074 + (k : Int)) (-1074 + (l : Int)) = -1074 + ((min k l : Nat) : Int) := by omega
  show Wh (double.nearest _ _ _) _
  rw [e0, show (-1074 + (k : Int) - (-1074 + ((min k l : Nat) : Int))).toNat = k - min k l from by omega, show (-1074 + (l : Int) - (-1074 + ((min k l : Nat) : Int))).toNat = l - min k l from by omega]
  have x1 := signed_wh h1 h2 (show min k l ≤ k by omega)
  have x2 := signed_wh h3 h4 (show min k l ≤ l by omega)
  generalize min k l = j at *
  generalize signed s a (k - j) = x at *
  generalize signed t b (l - j) = y at *
  have hJ : 0 < 2 ^ j := Nat.two_pow_pos j
  have hB := E74_pos
  have x3 : (x + y) * (2 ^ j : Nat) = (n + m) * (E74 : Nat) := by rw [Int.add_mul, Int.add_mul, x1, x2]
  have habs : (x + y).natAbs * 2 ^ j = (n + m).natAbs * E74 := by
    have := congrArg Int.natAbs x3
    rwa [Int.natAbs_mul, Int.natAbs_mul, Int.natAbs_natCast, Int.natAbs_natCast] at this
  have hJ' : (0 : Int) < (2 ^ j : Nat) := by omega
  have hB' : (0 : Int) < (E74 : Nat) := by omega
  have hneg : x + y < 0 ↔ n + m < 0 := by
    constructor
    · intro h
      have := Int.mul_neg_of_neg_of_pos h hJ'
      rw [x3] at this
      exact Int.not_le.1 fun hc => by have := Int.mul_nonneg hc (Int.le_of_lt hB'); omega
    · intro h
      have := Int.mul_neg_of_neg_of_pos h hB'
      rw [← x3] at this
      exact Int.not_le.1 fun hc => by have := Int.mul_nonneg hc (Int.le_of_lt hJ'); omega
  refine wh_write (n + m) hs _ _ _ ?_ ?_
  · rw [show (-1074 + (j : Int) + 1074).toNat = j from by omega, show (-1074 - (-1074 + (j : Int))).toNat = 0 from by omega, Nat.pow_zero, Nat.mul_one]; exact habs
  · intro hnm
    have h0 : ¬ (x + y = 0) := by
      intro h
      rw [h, Int.zero_mul] at x3
      exact hnm ((Int.mul_eq_zero.1 x3.symm).resolve_right (by omega))
    rw [if_neg h0]
    exact decide_eq_decide.2 hneg

theorem wh_add {x y : Nat} {n m : Int} (hx : Wh x n) (hy : Wh y m) (hs : (n + m).natAbs ≤ LIM) : ∃ z, floatBits .add .f64 x y = some z ∧ Wh z (n + m) := wh_sum hx hy hs
theorem wh_sub {x y : Nat} {n m : Int} (hx : Wh x n) (hy : Wh y m) (hs : (n - m).natAbs ≤ LIM) : ∃ z, floatBits .sub .f64 x y = some z ∧ Wh z (n - m) := by
  have := wh_sum hx (wh_opp hy) (by rw [← Int.sub_eq_add_neg]; exact hs)
  rw [← Int.sub_eq_add_neg] at this
  exact this

theorem wh_mul {x y : Nat} {n m : Int} (hx : Wh x n) (hy : Wh y m) (hs : (n * m).natAbs ≤ LIM) : ∃ z, floatBits .mul .f64 x y = some z ∧ Wh z (n * m) := by
  obtain ⟨s, a, k, e1, h1, h2, -⟩ := hx
  obtain ⟨t, b, l, e2, h3, h4, -⟩ := hy
  have e : floatBits .mul .f64 x y = some (double.nearest (s ^^ t) (a * b) (-1074 + (k : Int) + (-1074 + (l : Int)))) := by
    show ((double.read x).product (double.read y)).map double.write = _
    rw [e1, e2]; rfl
  refine ⟨_, e, wh_write (n * m) hs _ _ _ ?_ ?_⟩
  · have hx2 : a * b * 2 ^ (k + l) = (n * m).natAbs * E74 * E74 := by
      rw [Nat.pow_add, Int.natAbs_mul, show a * b * (2 ^ k * 2 ^ l) = a * 2 ^ k * (b * 2 ^ l) from by ac_rfl, h1, h3]
      ac_rfl
    by_cases hkl : 1074 ≤ k + l
    · obtain ⟨j, hj⟩ : ∃ j, k + l = j + 1074 := ⟨k + l - 1074, by omega⟩
      rw [show (-1074 + (k : Int) + (-1074 + (l : Int)) + 1074).toNat = j from by omega, show (-1074 - (-1074 + (k : Int) + (-1074 + (l : Int)))).toNat = 0 from by omega, Nat.pow_zero, Nat.mul_one]
      rw [hj, Nat.pow_add, ← E74_eq, ← Nat.mul_assoc] at hx2
      exact Nat.eq_of_mul_eq_mul_right E74_pos hx2
    · obtain ⟨j, hj⟩ : ∃ j, 1074 = k + l + j := ⟨1074 - (k + l), by omega⟩
      rw [show (-1074 + (k : Int) + (-1074 + (l : Int)) + 1074).toNat = 0 from by omega, show (-1074 - (-1074 + (k : Int) + (-1074 + (l : Int)))).toNat = j from by omega, Nat.pow_zero, Nat.mul_one]
      have e : (n * m).natAbs * E74 * E74 = (n * m).natAbs * E74 * 2 ^ j * 2 ^ (k + l) := by
        rw [Nat.mul_assoc ((n * m).natAbs * E74), ← Nat.pow_add, show j + (k + l) = 1074 from by omega, ← E74_eq]
      rw [e] at hx2
      exact Nat.eq_of_mul_eq_mul_right (Nat.two_pow_pos _) hx2
  · intro hnz
    have hn0 : n ≠ 0 := fun h => hnz (by rw [h, Int.zero_mul])
    have hm0 : m ≠ 0 := fun h => hnz (by rw [h, Int.mul_zero])
    rw [h2 hn0, h4 hm0]
    by_cases h1 : n < 0 <;> by_cases h2 : m < 0
    · have := Int.mul_pos_of_neg_of_neg h1 h2
      rw [decide_eq_true h1, decide_eq_true h2, decide_eq_false (by omega)]; rfl
    · have := Int.mul_neg_of_neg_of_pos h1 (show 0 < m by omega)
      rw [decide_eq_true h1, decide_eq_false h2, decide_eq_true (by omega)]; rfl
    · have := Int.mul_neg_of_pos_of_neg (show 0 < n by omega) h2
      rw [decide_eq_false h1, decide_eq_true h2, decide_eq_true (by omega)]; rfl
    · have := Int.mul_pos (show 0 < n by omega) (show 0 < m by omega)
      rw [decide_eq_false h1, decide_eq_false h2, decide_eq_false (by omega)]; rfl

theorem wh_order {x y : Nat} {n : Int} (hx : Wh x n) (hy : Wh y n) : double.order x y = some .eq := by
  obtain ⟨s, a, k, e1, h1, h2, -⟩ := hx
  obtain ⟨t, b, l, e2, h3, h4, -⟩ := hy
  unfold Format.order
  rw [e1, e2]
  unfold Datum.order
  simp only
  have e0 : min (-1074 + (k : Int)) (-1074 + (l : Int)) = -1074 + ((min k l : Nat) : Int) := by omega
  rw [e0, show (-1074 + (k : Int) - (-1074 + ((min k l : Nat) : Int))).toNat = k - min k l from by omega, show (-1074 + (l : Int) - (-1074 + ((min k l : Nat) : Int))).toNat = l - min k l from by omega]
  have x1 := signed_wh h1 h2 (show min k l ≤ k by omega)
  have x2 := signed_wh h3 h4 (show min k l ≤ l by omega)
  have e : signed s a (k - min k l) = signed t b (l - min k l) := by
    have hJ := Nat.two_pow_pos (min k l)
    exact Int.eq_of_mul_eq_mul_right (by omega) (x1.trans x2.symm)
  rw [e]
  congr 1
  exact Int.compare_eq_eq.2 rfl

/-- By a divisor of 2^t, nothing left. -/
theorem wh_quo {x y t : Nat} {n : Int} (hx : Wh x (n * (2 ^ t : Nat))) (ht : t ≤ 52) (hy : double.read y = .number false 4503599627370496 ((t : Int) - 52)) (hs : n.natAbs ≤ LIM) : ∃ z, floatBits .quo .f64 x y = some z ∧ Wh z n := by
  obtain ⟨s, a, k, e1, h1, h2, ha⟩ := hx
  obtain ⟨M, hM, hM2⟩ : ∃ M, 54 + Nat.log2 4503599627370496 - a.log2 = M ∧ 54 ≤ M := by
    have e : Nat.log2 4503599627370496 = 52 := by decide +kernel
    refine ⟨_, rfl, ?_⟩
    have : a.log2 ≤ 52 := by
      by_cases h0 : a = 0
      · subst h0; decide
      · have := (Nat.log2_lt h0 (k := 53)).2 (by unfold LIM at ha; omega)
        omega
    omega
  have e : floatBits .quo .f64 x y = some (double.nearest (s ^^ false) (2 * (a <<< M / 4503599627370496) + (a <<< M % 4503599627370496 != 0).toNat) (-1074 + (k : Int) - ((t : Int) - 52) - M - 1)) := by
    show ((double.read x).quotient 54 (double.read y)).map double.write = _
    rw [e1, hy]
    unfold Datum.quotient
    simp only
    rw [if_neg (by decide), hM]; rfl
  have es : a <<< M = a * 2 ^ (M - 52) * 4503599627370496 := by
    rw [Nat.shiftLeft_eq, Nat.mul_assoc, show (4503599627370496 : Nat) = 2 ^ 52 from by decide, ← Nat.pow_add, show M - 52 + 52 = M from by omega]
  rw [es, Nat.mul_div_cancel _ (by decide), Nat.mul_mod_left] at e
  refine ⟨_, e, wh_write n hs _ _ _ ?_ ?_⟩
  · rw [show ((0 : Nat) != 0).toNat = 0 from rfl, Nat.add_zero]
    have h3 : a * 2 ^ k = n.natAbs * E74 * 2 ^ t := by
      rw [h1, Int.natAbs_mul, Int.natAbs_natCast]; ac_rfl
    have h4 : 2 * (a * 2 ^ (M - 52)) = a * 2 ^ (M - 51) := by
      rw [show M - 51 = M - 52 + 1 from by omega, Nat.pow_succ]; ac_rfl
    rw [h4]
    generalize n.natAbs * E74 = N at *
    obtain ⟨A, hA⟩ : ∃ A, (-1074 + (k : Int) - ((t : Int) - 52) - M - 1 + 1074).toNat = A := ⟨_, rfl⟩
    obtain ⟨B, hB⟩ : ∃ B, (-1074 - (-1074 + (k : Int) - ((t : Int) - 52) - M - 1)).toNat = B := ⟨_, rfl⟩
    rw [hA, hB]
    have hAB : (B = 0 ∧ A + (M - 51) + t = k) ∨ (A = 0 ∧ B + k = M - 51 + t) := by omega
    rcases hAB with ⟨hb, hk⟩ | ⟨ha0, hk⟩
    · rw [hb, Nat.pow_zero, Nat.mul_one, Nat.mul_assoc, ← Nat.pow_add]
      refine Nat.eq_of_mul_eq_mul_right (Nat.two_pow_pos t) ?_
      rw [← h3, Nat.mul_assoc, ← Nat.pow_add, ← hk]
      congr 2; omega
    · rw [ha0, Nat.pow_zero, Nat.mul_one]
      refine Nat.eq_of_mul_eq_mul_right (Nat.two_pow_pos k) ?_
      rw [show a * 2 ^ (M - 51) * 2 ^ k = a * 2 ^ k * 2 ^ (M - 51) from by ac_rfl, h3, Nat.mul_assoc, Nat.mul_assoc, ← Nat.pow_add, ← Nat.pow_add, hk]
      congr 2; omega
  · intro hn
    have hp := Nat.two_pow_pos t
    rw [h2 (by intro h; exact hn ((Int.mul_eq_zero.1 h).resolve_right (by omega))), Bool.xor_false]
    refine decide_eq_decide.2 ?_
    have hp' : (0 : Int) < (2 ^ t : Nat) := by omega
    constructor
    · intro h
      exact Int.not_le.1 fun hc => by have := Int.mul_nonneg hc (Int.le_of_lt hp'); omega
    · intro h
      exact Int.mul_neg_of_neg_of_pos h hp'

theorem isF_some {z v : Nat} {o : Option Nat} (h : o = some z) (hv : IsF o v) : v = z := by
  rcases hv with hv | ⟨hv, -⟩
  · rw [h] at hv; injection hv with hv; exact hv.symm
  · rw [h] at hv; cases hv
end Go.Proofs.Ytnjbbkalcnfkeaa
