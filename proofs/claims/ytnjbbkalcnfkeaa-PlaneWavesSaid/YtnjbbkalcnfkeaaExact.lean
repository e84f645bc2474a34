/- Plain laws: values that a format has come through unchanged; rounding keeps the order; binary32 made wide and narrow. -/
import Derived.Test.YtnjbbkalcnfkeaaNum
import Derived.Laws.FloatArith
namespace Go.Proofs.Ytnjbbkalcnfkeaa
open Ieee

/-- A value that the format has is rounded to itself. -/
theorem rungOf_exact (f : Format) (hf : 1 ≤ f.fractionBits) (mag : Nat) (place : Int) (r : Nat) (hr : r ≤ f.infRung)
    (h : mag * 2 ^ (place - f.leastPlace).toNat = V f r * 2 ^ (f.leastPlace - place).toNat) : rungOf f mag place = r := by
  have hD : 0 < 2 ^ (f.leastPlace - place).toNat := Nat.two_pow_pos _
  have hT : 0 < 2 ^ (place - f.leastPlace).toNat := Nat.two_pow_pos _
  by_cases h0 : mag = 0
  · subst h0
    rw [Nat.zero_mul] at h
    have hv : V f r = 0 := by
      rcases Nat.mul_eq_zero.1 h.symm with h1 | h1
      · exact h1
      · omega
    have : r = 0 := by
      rcases Nat.eq_zero_or_pos r with h1 | h1
      · exact h1
      · have := V_strict f h1; omega
    subst this; rfl
  · refine rung_unique (rungOf_le_inf _ _ _) hr fun t ht => ?_
    rw [rungOf_le f hf mag (by omega) place t ht]
    unfold Upto M
    rw [h]
    generalize 2 ^ (f.leastPlace - place).toNat = D at *
    constructor
    · intro hu
      refine Nat.le_of_not_lt fun hlt => ?_
      have h1 : V f t < V f (t + 1) := V_lt_succ f t
      have h2 : V f (t + 1) ≤ V f r := V_mono f hlt
      have h3 : (V f t + V f (t + 1)) * D < (2 * V f r) * D := Nat.mul_lt_mul_of_pos_right (by omega) hD
      rw [Nat.mul_assoc] at h3
      omega
    · intro hle
      left
      have h1 : V f t < V f (t + 1) := V_lt_succ f t
      have h2 : V f r ≤ V f t := V_mono f hle
      have h3 : (2 * V f r) * D < (V f t + V f (t + 1)) * D := Nat.mul_lt_mul_of_pos_right (by omega) hD
      rw [Nat.mul_assoc] at h3
      exact h3

/-- Rounding keeps the order: the values over one another's scales. -/
theorem rungOf_mono (f : Format) (hf : 1 ≤ f.fractionBits) (a b : Nat) (p q : Int)
    (h : a * 2 ^ (p - f.leastPlace).toNat * 2 ^ (f.leastPlace - q).toNat ≤ b * 2 ^ (q - f.leastPlace).toNat * 2 ^ (f.leastPlace - p).toNat) : rungOf f a p ≤ rungOf f b q := by
  by_cases ha : a = 0
  · subst ha; exact Nat.zero_le _
  · have hP : 0 < 2 ^ (f.leastPlace - q).toNat := Nat.two_pow_pos _
    have hQ : 0 < 2 ^ (f.leastPlace - p).toNat := Nat.two_pow_pos _
    have hA : 0 < a * 2 ^ (p - f.leastPlace).toNat := Nat.mul_pos (by omega) (Nat.two_pow_pos _)
    have hb : b ≠ 0 := by
      intro hb; subst hb
      rw [Nat.zero_mul, Nat.zero_mul] at h
      have := Nat.mul_pos hA hP
      omega
    by_cases hi : rungOf f b q < f.infRung
    · rw [rungOf_le f hf a (by omega) p _ hi]
      have hb1 := (rungOf_le f hf b (by omega) q _ hi).1 (Nat.le_refl _)
      unfold Upto at *
      generalize rungOf f b q = t at *
      generalize a * 2 ^ (p - f.leastPlace).toNat = A at *
      generalize b * 2 ^ (q - f.leastPlace).toNat = B at *
      generalize 2 ^ (f.leastPlace - p).toNat = D at *
      generalize 2 ^ (f.leastPlace - q).toNat = E at *
      generalize M f t = m at *
      have e1 : m * D * E = m * E * D := by ac_rfl
      have e2 : 2 * A * E = 2 * (A * E) := by ac_rfl
      have e3 : 2 * B * D = 2 * (B * D) := by ac_rfl
      have hs : 2 * A * E ≤ 2 * B * D := by omega
      rcases hb1 with h1 | ⟨h1, h2⟩
      · left
        have h3 : 2 * B * D < m * E * D := Nat.mul_lt_mul_of_pos_right h1 hQ
        exact Nat.lt_of_mul_lt_mul_right (a := E) (by omega)
      · have h3 : 2 * B * D = m * E * D := by rw [h1]
        rcases Nat.lt_or_ge (2 * A * E) (m * D * E) with h4 | h4
        · left; exact Nat.lt_of_mul_lt_mul_right h4
        · right
          refine ⟨Nat.eq_of_mul_eq_mul_right hP (by omega), h2⟩
    · have := rungOf_le_inf f a p
      have := rungOf_le_inf f b q
      omega

/-- A finite word, read: its value is that of its rung. -/
theorem read_fin (f : Format) (a : Nat) (h : a % f.signWeight < f.infRung) :
    ∃ m k : Nat, f.read a = .number (a / f.signWeight % 2 == 1) m (f.leastPlace + k) ∧ V f (a % f.signWeight) = m * 2 ^ k ∧ m < 2 * f.binade ∧ (k = 0 ∨ f.binade ≤ m) := by
  have hb : 0 < f.binade := Nat.two_pow_pos _
  unfold Format.read
  dsimp only
  by_cases h1 : a % f.signWeight < f.binade
  · rw [if_pos h1]
    refine ⟨_, 0, by rw [Int.natCast_zero, Int.add_zero], ?_, by omega, .inl rfl⟩
    unfold V; rw [if_pos h1, Nat.pow_zero, Nat.mul_one]
  · rw [if_neg h1, if_pos h]
    refine ⟨_, _, rfl, ?_, ?_, .inr (by omega)⟩
    · unfold V; rw [if_neg h1]
    · have := Nat.mod_lt (a % f.signWeight) hb; omega

theorem read_word (f : Format) (s : Bool) (r : Nat) (h : r < f.infRung) :
    ∃ m k : Nat, f.read (f.word s r) = .number s m (f.leastPlace + k) ∧ V f r = m * 2 ^ k ∧ m < 2 * f.binade ∧ (k = 0 ∨ f.binade ≤ m) := by
  have hs := inf_lt_sign f
  have h1 := word_mod f s r (by omega)
  have h2 := word_div f s r (by omega)
  have := read_fin f (f.word s r) (by rw [h1]; exact h)
  rwa [h1, h2] at this

/-- Each value of few digits is some rung's. -/
theorem has_rung (f : Format) (j : Nat) : ∀ m : Nat, m < 2 * f.binade → ∃ r, V f r = m * 2 ^ j := by
  have hb : 0 < f.binade := Nat.two_pow_pos _
  induction j with
  | zero => intro m hm; exact ⟨m, by have := V_row f 0 m (by omega) (.inl rfl); rwa [Nat.zero_mul, Nat.zero_add] at this⟩
  | succ j ih =>
    intro m hm
    by_cases h : f.binade ≤ m
    · exact ⟨(j + 1) * f.binade + m, V_row f (j + 1) m (by omega) (.inr h)⟩
    · obtain ⟨r, hr⟩ := ih (2 * m) (by omega)
      exact ⟨r, by rw [hr, Nat.pow_succ]; ac_rfl⟩

theorem V_inf (f : Format) (hf : 2 ≤ f.exponentBits) : V f f.infRung = f.binade * 2 ^ (2 ^ f.exponentBits - 2) := by
  have h4 : 4 ≤ 2 ^ f.exponentBits := Nat.pow_le_pow_right (n := 2) (by omega) hf
  have : f.infRung = (2 ^ f.exponentBits - 2) * f.binade + f.binade := by
    show (2 ^ f.exponentBits - 1) * f.binade = _
    obtain ⟨c, hc⟩ : ∃ c, 2 ^ f.exponentBits = c + 2 := ⟨2 ^ f.exponentBits - 2, by omega⟩
    rw [hc, show c + 2 - 1 = c + 1 from by omega, show c + 2 - 2 = c from by omega, Nat.add_mul, Nat.one_mul]
  have hb : 0 < f.binade := Nat.two_pow_pos _
  rw [this, V_row f _ f.binade (by omega) (.inr (Nat.le_refl _))]

theorem rung_fin (f : Format) {r s : Nat} (h : V f r < V f s) : r < s := Nat.lt_of_not_le fun hle => by have := V_mono f hle; omega

/-- A word, read and written. -/
theorem write_read (f : Format) (hf : 1 ≤ f.fractionBits) (s : Bool) (r : Nat) (h : r < f.infRung) : f.write (f.read (f.word s r)) = f.word s r := by
  obtain ⟨m, k, h1, h2, -, -⟩ := read_word f s r h
  rw [h1]
  show f.nearest s m (f.leastPlace + k) = _
  rw [nearest_eq, rungOf_exact f hf m (f.leastPlace + k) r (by omega)]
  rw [h2, show (f.leastPlace + (k : Int) - f.leastPlace).toNat = k from by omega, show (f.leastPlace - (f.leastPlace + (k : Int))).toNat = 0 from by omega, Nat.pow_zero, Nat.mul_one]

/-! ### Binary32 made wide, and narrow again -/
theorem s_l : single.leastPlace = -149 := by decide
theorem d_l : double.leastPlace = -1074 := by decide
theorem s_b : single.binade = 8388608 := by decide
theorem d_b : double.binade = 4503599627370496 := by decide

/-- The wide word of a finite rung: its value is the same. -/
theorem wide_rung (r : Nat) (h : r < single.infRung) : ∃ R, R < double.infRung ∧ V double R = V single r * 2 ^ 925 := by
  obtain ⟨m, k, -, h2, h3, h4⟩ := read_word single false r h
  rw [s_b] at h3 h4
  obtain ⟨R, hR⟩ := has_rung double (k + 925) m (by rw [d_b]; omega)
  have hk : k ≤ 253 := by
    refine Nat.le_of_not_lt fun hk => ?_
    have h5 := V_strict single h
    have h6 := V_inf single (by decide)
    rw [s_b, show 2 ^ single.exponentBits - 2 = 254 from by decide] at h6
    have hm : 8388608 ≤ m := by omega
    have h7 : 8388608 * 2 ^ 254 ≤ m * 2 ^ k := Nat.mul_le_mul hm (Nat.pow_le_pow_right (by omega) (by omega))
    omega
  refine ⟨R, rung_fin double ?_, ?_⟩
  · obtain ⟨E, hE, hE2⟩ : ∃ E, 2 ^ double.exponentBits - 2 = E ∧ 2000 ≤ E := ⟨_, rfl, by decide⟩
    rw [hR, V_inf double (by decide), d_b, hE]
    have h5 : m * 2 ^ (k + 925) < 2 ^ 24 * 2 ^ (k + 925) := Nat.mul_lt_mul_of_pos_right (show m < 2 ^ 24 by omega) (Nat.two_pow_pos _)
    have h6 : (4503599627370496 : Nat) = 2 ^ 52 := by decide
    rw [← Nat.pow_add] at h5
    rw [h6, ← Nat.pow_add]
    exact Nat.lt_trans h5 (Nat.pow_lt_pow_right (by omega) (by omega))
  · rw [hR, h2, Nat.pow_add, Nat.mul_assoc]

/-- The wide word of a word of binary32 that is a number. -/
theorem wide_some (s : Bool) (r : Nat) (h : r < single.infRung) : ∃ R, R < double.infRung ∧ V double R = V single r * 2 ^ 925 ∧
    Go.floatToFloatBits .f32 (single.word s r) .f64 = some (double.word s R) ∧ Go.floatToFloatBits .f64 (double.word s R) .f32 = some (single.word s r) := by
  obtain ⟨R, hR, hV⟩ := wide_rung r h
  refine ⟨R, hR, hV, ?_, ?_⟩
  · obtain ⟨m, k, h1, h2, -, -⟩ := read_word single s r h
    have hw : double.nearest s m (single.leastPlace + k) = double.word s R := by
      rw [nearest_eq, rungOf_exact double (by decide) m (single.leastPlace + k) R (by omega)]
      rw [hV, h2, s_l, d_l, show (-149 + (k : Int) - -1074).toNat = k + 925 from by omega, show (-1074 - (-149 + (k : Int))).toNat = 0 from by omega, Nat.pow_zero, Nat.mul_one, Nat.pow_add, Nat.mul_assoc]
    unfold Go.floatToFloatBits
    rw [if_neg (by decide), show Go.FloatKind.f32.decode (single.word s r) = _ from h1]
    simp only
    rw [show Go.FloatKind.f64.encode (.number s m (single.leastPlace + k)) = double.word s R from hw]
    obtain ⟨m', k', h3, -⟩ := read_word double s R hR
    rw [show Go.FloatKind.f64.decode (double.word s R) = _ from h3]
    rfl
  · obtain ⟨m, k, h1, h2, -, -⟩ := read_word double s R hR
    have hw : single.nearest s m (double.leastPlace + k) = single.word s r := by
      rw [nearest_eq, rungOf_exact single (by decide) m (double.leastPlace + k) r (by omega)]
      rw [s_l, d_l]
      have hx : m * 2 ^ k = V single r * 2 ^ 925 := by rw [← h2, hV]
      by_cases hk : 925 ≤ k
      · obtain ⟨j, rfl⟩ : ∃ j, k = j + 925 := ⟨k - 925, by omega⟩
        rw [show (-1074 + ((j + 925 : Nat) : Int) - -149).toNat = j from by omega, show (-149 - (-1074 + ((j + 925 : Nat) : Int))).toNat = 0 from by omega, Nat.pow_zero, Nat.mul_one]
        rw [Nat.pow_add, ← Nat.mul_assoc] at hx
        exact Nat.eq_of_mul_eq_mul_right (Nat.two_pow_pos 925) hx
      · obtain ⟨j, hj⟩ : ∃ j, 925 = k + j := ⟨925 - k, by omega⟩
        rw [show (-1074 + (k : Int) - -149).toNat = 0 from by omega, show (-149 - (-1074 + (k : Int))).toNat = j from by omega, Nat.pow_zero, Nat.mul_one]
        rw [hj, Nat.pow_add, Nat.mul_comm (2 ^ k), ← Nat.mul_assoc] at hx
        exact Nat.eq_of_mul_eq_mul_right (Nat.two_pow_pos k) hx
    unfold Go.floatToFloatBits
    rw [if_neg (by decide), show Go.FloatKind.f64.decode (double.word s R) = _ from h1]
    simp only
    rw [show Go.FloatKind.f32.encode (.number s m (double.leastPlace + k)) = single.word s r from hw]
    obtain ⟨m', k', h3, -⟩ := read_word single s r h
    rw [show Go.FloatKind.f32.decode (single.word s r) = _ from h3]
    rfl
theorem wide_inf (s : Bool) : Go.floatToFloatBits .f32 (single.word s single.infRung) .f64 = some (double.word s double.infRung) ∧ Go.floatToFloatBits .f64 (double.word s double.infRung) .f32 = some (single.word s single.infRung) := by
  cases s <;> decide +kernel
end Go.Proofs.Ytnjbbkalcnfkeaa
