/- Plain law: the root of binary64 is never so near to a middle of binary32 that two roundings do harm. -/
import Derived.Test.YtllchfdddfmjbaaRootP
namespace Go.Proofs.Ytllchfdddfmjbaa
open Ieee

/-- A multiple of G that is below another is below it by G. -/
theorem mul_gap {A B G : Nat} (h : A * G < B * G) : A * G + G ≤ B * G := by
  have h1 : A < B := Nat.lt_of_mul_lt_mul_right h
  have h2 : (A + 1) * G ≤ B * G := Nat.mul_le_mul_right _ h1
  rw [Nat.add_mul, Nat.one_mul] at h2
  exact h2

/-- V * V and W, V a number of 25 digits, W of 24, are far apart if they differ. -/
theorem gap (a F m I e V W : Nat) (ha : 0 < a) (ha2 : a < 2 ^ 25) (hm : m < 2 ^ 24) (hF : e + 28 ≤ F) (hV : V = a * 2 ^ F) (hW : W = m * 2 ^ I) :
    (W < V * V → W + V * 2 ^ e ≤ V * V) ∧ (V * V < W → V * V + 2 * (V * 2 ^ e) < W) := by
  have hVV : V * V = a * a * 2 ^ (2 * F) := by
    rw [hV, show 2 * F = F + F from by omega, Nat.pow_add]; ac_rfl
  have hVe : V * 2 ^ e = a * 2 ^ (F + e) := by rw [hV, Nat.pow_add, Nat.mul_assoc]
  have hbig : 8 * (V * 2 ^ e) ≤ 2 ^ (2 * F) := by
    rw [hVe]
    have h1 : a * 2 ^ (F + e) ≤ 2 ^ 25 * 2 ^ (F + e) := Nat.mul_le_mul_right _ (by omega)
    rw [← Nat.pow_add] at h1
    have h2 : 2 ^ (3 + (25 + (F + e))) ≤ 2 ^ (2 * F) := Nat.pow_le_pow_right (by omega) (by omega)
    rw [Nat.pow_add] at h2
    omega
  have hVpos : 0 < V := by rw [hV]; exact Nat.mul_pos ha (Nat.two_pow_pos _)
  have hVF : 2 ^ 28 * (V * 2 ^ e) ≤ V * V := by
    have h1 : V * (2 ^ 28 * 2 ^ e) ≤ V * V := by
      refine Nat.mul_le_mul_left _ ?_
      rw [← Nat.pow_add, hV]
      have h2 : 2 ^ (28 + e) ≤ 2 ^ F := Nat.pow_le_pow_right (by omega) (by omega)
      have h3 : 2 ^ F ≤ a * 2 ^ F := Nat.le_mul_of_pos_left _ ha
      omega
    have h4 : 2 ^ 28 * (V * 2 ^ e) = V * (2 ^ 28 * 2 ^ e) := by ac_rfl
    omega
  have hVe0 : 0 < V * 2 ^ e := Nat.mul_pos hVpos (Nat.two_pow_pos _)
  by_cases hI : 2 * F ≤ I
  · -- both are multiples of 2 ^ (2 * F)
    obtain ⟨j, rfl⟩ : ∃ j, I = j + 2 * F := ⟨I - 2 * F, by omega⟩
    have hW2 : W = m * 2 ^ j * 2 ^ (2 * F) := by rw [hW, Nat.pow_add, Nat.mul_assoc]
    generalize 2 ^ (2 * F) = G at *
    constructor
    · intro h
      rw [hW2, hVV] at h
      have := mul_gap h
      rw [← hW2, ← hVV] at this
      omega
    · intro h
      rw [hW2, hVV] at h
      have := mul_gap h
      rw [← hW2, ← hVV] at this
      omega
  · -- both are multiples of 2 ^ I
    obtain ⟨j, hj⟩ : ∃ j, 2 * F = j + I := ⟨2 * F - I, by omega⟩
    have hVV2 : V * V = a * a * 2 ^ j * 2 ^ I := by rw [hVV, hj, Nat.pow_add, ← Nat.mul_assoc]
    have hWle : W ≤ 2 ^ 24 * 2 ^ I := by rw [hW]; exact Nat.mul_le_mul_right _ (by omega)
    generalize 2 ^ I = G at *
    constructor
    · intro h
      rw [hW, hVV2] at h
      have := mul_gap h
      rw [← hW, ← hVV2] at this
      omega
    · intro h
      rw [hW, hVV2] at h
      have := mul_gap h
      rw [← hW, ← hVV2] at this
      omega

/-- The neighbours of a rung in its row. -/
theorem V_near (f : Format) (e k : Nat) (hk : k < 2 * f.binade) (hk2 : f.binade ≤ k) : V f (e * f.binade + k + 1) = V f (e * f.binade + k) + 2 ^ e ∧ V f (e * f.binade + k) ≤ V f (e * f.binade + k - 1) + 2 ^ e := by
  have hb : 0 < f.binade := Nat.two_pow_pos _
  have h0 := V_row f e k (by omega) (.inr hk2)
  have h1 := V_row f e (k + 1) (by omega) (.inr (by omega))
  rw [← Nat.add_assoc] at h1
  refine ⟨by rw [h0, h1, Nat.add_mul, Nat.one_mul], ?_⟩
  by_cases h : k = f.binade
  · cases e with
    | zero =>
      have h2 := V_row f 0 (k - 1) (by omega) (.inl rfl)
      rw [Nat.zero_mul, Nat.zero_add] at *
      rw [h2, h0, Nat.pow_zero]; omega
    | succ e =>
      have h2 := V_row f e (2 * f.binade - 1) (by omega) (.inr (by omega))
      have e1 : (e + 1) * f.binade + k - 1 = e * f.binade + (2 * f.binade - 1) := by rw [Nat.add_mul, h]; omega
      rw [e1, h2, h0, h, Nat.pow_succ]
      obtain ⟨c, hc⟩ : ∃ c, f.binade = c + 1 := ⟨f.binade - 1, by omega⟩
      rw [hc, show 2 * (c + 1) - 1 = 2 * c + 1 from by omega, Nat.add_mul, Nat.add_mul, Nat.one_mul]
      have : c * (2 ^ e * 2) = 2 * c * 2 ^ e := by ac_rfl
      omega
  · have h2 := V_row f e (k - 1) (by omega) (.inr (by omega))
    have e1 : e * f.binade + k - 1 = e * f.binade + (k - 1) := by omega
    rw [e1, h2, h0]
    obtain ⟨c, hc⟩ : ∃ c, k = c + 1 := ⟨k - 1, by omega⟩
    rw [hc, show c + 1 - 1 = c from by omega, Nat.add_mul, Nat.one_mul]
    exact Nat.le_refl _

/-- A word of binary64 made narrow: told by middles of binary32. -/
theorem narrow_le (E : Nat) (hE : E = 925) (Ry : Nat) (h : Ry < double.infRung) (h0 : 0 < Ry) (s : Bool) :
    ∃ m k : Nat, double.read (double.word s Ry) = .number s m (-1074 + k) ∧ single.nearest s m (-1074 + k) = single.word s (rungOf single m (-1074 + k)) ∧
      ∀ r, r < single.infRung → (rungOf single m (-1074 + k) ≤ r ↔ (2 * V double Ry < M single r * 2 ^ E ∨ (2 * V double Ry = M single r * 2 ^ E ∧ r % 2 = 0))) := by
  obtain ⟨m, k, h1, h2, -, -⟩ := read_word double s Ry h
  rw [d_l] at h1
  refine ⟨m, k, h1, nearest_eq _ _ _ _, fun r hr => ?_⟩
  have hV : 0 < V double Ry := by have := V_strict double h0; omega
  have hm : 0 < m := Nat.pos_of_ne_zero fun h => by rw [h, Nat.zero_mul] at h2; omega
  rw [rungOf_le single (by decide) m hm _ r hr]
  unfold Upto
  rw [s_l]
  have hx : m * 2 ^ (-1074 + (k : Int) - -149).toNat * 2 ^ E = V double Ry * 2 ^ (-149 - (-1074 + (k : Int))).toNat := by
    rw [h2, Nat.mul_assoc, Nat.mul_assoc, ← Nat.pow_add, ← Nat.pow_add]
    congr 2
    omega
  rw [scale_lt (Nat.two_pow_pos E) (Nat.two_pow_pos _) hx, scale_eq (Nat.two_pow_pos E) (Nat.two_pow_pos _) hx]

/-- THROUGH BINARY64 AND BACK: the root is rounded as if once. -/
theorem root_thru (r0 : Nat) (h : r0 < single.infRung) (hpos : 0 < r0) :
    ∃ R0 Ry Rs, Go.floatToFloatBits .f32 (single.word false r0) .f64 = some (double.word false R0) ∧ double.sqrt (double.word false R0) = some (double.word false Ry) ∧
      Go.floatToFloatBits .f64 (double.word false Ry) .f32 = some (single.word false Rs) ∧ single.sqrt (single.word false r0) = some (single.word false Rs) ∧ Rs < single.infRung ∧
      ∃ m k : Nat, single.read (single.word false r0) = .number false m (-149 + k) ∧ V single r0 = m * 2 ^ k ∧ m < 2 ^ 24 ∧ ∀ r, r < single.infRung → (Rs ≤ r ↔ UptoS single m (-149 + k) r) := by
  obtain ⟨m, k, h1, h2, h3, h4⟩ := read_word single false r0 h
  rw [s_l] at h1
  rw [s_b] at h3 h4
  have hm : 0 < m := Nat.pos_of_ne_zero fun hm => by
    rw [hm, Nat.zero_mul] at h2
    have := V_strict single hpos
    omega
  have hk : k ≤ 253 := by
    refine Nat.le_of_not_lt fun hk => ?_
    have h5 := V_strict single h
    have h6 := V_inf single (by decide)
    rw [s_b, show 2 ^ single.exponentBits - 2 = 254 from by decide] at h6
    have h7 : 8388608 * 2 ^ 254 ≤ m * 2 ^ k := Nat.mul_le_mul (by omega) (Nat.pow_le_pow_right (by omega) (by omega))
    omega
  obtain ⟨R0, hR0, hV0, hw1, -⟩ := wide_some false r0 h
  obtain ⟨E, hE⟩ : ∃ E : Nat, E = 925 := ⟨_, rfl⟩
  rw [← hE] at hV0
  obtain ⟨m', k', h5, h6, h7, -⟩ := read_word double false R0 hR0
  rw [d_l] at h5
  have hval : m' * 2 ^ k' = m * 2 ^ (k + E) := by rw [← h6, hV0, h2, Nat.pow_add, Nat.mul_assoc]
  have hm' : 0 < m' := Nat.pos_of_ne_zero fun hm' => by
    rw [hm', Nat.zero_mul] at hval
    have := Nat.mul_pos hm (Nat.two_pow_pos (k + E))
    omega
  obtain ⟨Ry, hy1, hy2, hy3⟩ := sqrt_rung double (by decide) m' (-1074 + k') hm' h7
  obtain ⟨Rs, hs1, hs2, hs3⟩ := sqrt_rung single (by decide) m (-149 + k) hm (by rw [s_b]; exact h3)
  -- the value over both scales
  have hy4 : ∀ t, t < double.infRung → (Ry ≤ t ↔ UptoS double m (-149 + k) t) := fun t ht => by
    rw [hy3 t ht]
    refine uptoS_same double m' m _ _ t ?_
    by_cases hc : k' ≤ k + E
    · rw [show (-1074 + (k' : Int) - (-149 + (k : Int))).toNat = 0 from by omega, show (-149 + (k : Int) - (-1074 + (k' : Int))).toNat = k + E - k' from by omega, Nat.pow_zero, Nat.mul_one]
      rw [show k + E = k + E - k' + k' from by omega, Nat.pow_add, ← Nat.mul_assoc] at hval
      exact Nat.eq_of_mul_eq_mul_right (Nat.two_pow_pos k') hval
    · rw [show (-1074 + (k' : Int) - (-149 + (k : Int))).toNat = k' - (k + E) from by omega, show (-149 + (k : Int) - (-1074 + (k' : Int))).toNat = 0 from by omega, Nat.pow_zero, Nat.mul_one]
      rw [show k' = k' - (k + E) + (k + E) from by omega, Nat.pow_add, ← Nat.mul_assoc] at hval
      exact Nat.eq_of_mul_eq_mul_right (Nat.two_pow_pos _) hval
  obtain ⟨I, hI⟩ : ∃ I : Nat, I = k + 1999 := ⟨_, rfl⟩
  obtain ⟨W, hW⟩ : ∃ W, W = m * 2 ^ I := ⟨_, rfl⟩
  have hdU : ∀ t, UptoS double m (-149 + k) t ↔ (4 * W < M double t * M double t ∨ (4 * W = M double t * M double t ∧ t % 2 = 0)) := fun t => by
    unfold UptoS
    rw [d_l, show (-149 + (k : Int) - 2 * -1074).toNat = I from by omega, show (2 * -1074 - (-149 + (k : Int))).toNat = 0 from by omega, Nat.pow_zero, Nat.mul_one, hW]
  have hsU : ∀ r, UptoS single m (-149 + k) r ↔ (4 * W < M single r * 2 ^ E * (M single r * 2 ^ E) ∨ (4 * W = M single r * 2 ^ E * (M single r * 2 ^ E) ∧ r % 2 = 0)) := fun r => by
    unfold UptoS
    rw [s_l, show (-149 + (k : Int) - 2 * -149).toNat = k + 149 from by omega, show (2 * -149 - (-149 + (k : Int))).toNat = 0 from by omega, Nat.pow_zero, Nat.mul_one]
    have e1 : 4 * W = 4 * (m * 2 ^ (k + 149)) * 2 ^ (E + E) := by
      rw [hW, hI, show k + 1999 = k + 149 + (E + E) from by omega, Nat.pow_add 2 (k + 149), ← Nat.mul_assoc m, ← Nat.mul_assoc 4]
    have e2 : M single r * 2 ^ E * (M single r * 2 ^ E) = M single r * M single r * 2 ^ (E + E) := by
      rw [Nat.pow_add]
      generalize 2 ^ E = B
      ac_rfl
    rw [e1, e2, scale2_lt, scale2_eq]
  -- both roundings against the middle above rung r
  have hfin : Ry < double.infRung := by
    have hlast : UptoS double m (-149 + k) (double.infRung - 1) := by
      rw [hdU]
      left
      have g1 : V double double.infRung ≤ M double (double.infRung - 1) := by
        unfold M
        rw [show double.infRung - 1 + 1 = double.infRung from by decide]
        exact Nat.le_add_left _ _
      obtain ⟨N, hN⟩ : ∃ N : Nat, N = 2000 := ⟨_, rfl⟩
      have g2 : 2 ^ N ≤ V double double.infRung := by
        rw [V_inf double (by decide), d_b]
        have : 2 ^ N ≤ 2 ^ (2 ^ double.exponentBits - 2) := Nat.pow_le_pow_right (by omega) (by rw [hN]; decide)
        exact Nat.le_trans this (Nat.le_mul_of_pos_left _ (by omega))
      have g3 : 2 ^ N * 2 ^ N ≤ M double (double.infRung - 1) * M double (double.infRung - 1) := Nat.mul_le_mul (Nat.le_trans g2 g1) (Nat.le_trans g2 g1)
      have g4 : 4 * W < 2 ^ N * 2 ^ N := by
        rw [hW, ← Nat.pow_add]
        have a1 : m * 2 ^ I < 2 ^ 24 * 2 ^ I := Nat.mul_lt_mul_of_pos_right (by omega) (Nat.two_pow_pos _)
        rw [← Nat.pow_add] at a1
        have a2 : 2 ^ (2 + (24 + I)) ≤ 2 ^ (N + N) := Nat.pow_le_pow_right (by omega) (by omega)
        rw [Nat.pow_add 2 2] at a2
        generalize 2 ^ (N + N) = B at *
        omega
      exact Nat.lt_of_lt_of_le g4 g3
    have := (hy4 (double.infRung - 1) (by decide)).2 hlast
    have h9 : 0 < double.infRung := by decide
    omega
  have hypos : 0 < Ry := by
    refine Nat.pos_of_ne_zero fun h0 => ?_
    have h8 := (hdU 0).1 ((hy4 0 (by decide)).1 (by omega))
    have h9 : M double 0 = 1 := by decide
    rw [h9] at h8
    have : 0 < W := by rw [hW]; exact Nat.mul_pos hm (Nat.two_pow_pos _)
    omega
  obtain ⟨my, ky, n1, n2, n3⟩ := narrow_le E hE Ry hfin hypos false
  have key : ∀ r, r < single.infRung → ((2 * V double Ry < M single r * 2 ^ E ∨ (2 * V double Ry = M single r * 2 ^ E ∧ r % 2 = 0)) ↔ UptoS single m (-149 + k) r) := by
    intro r hr
    rw [hsU r]
    obtain ⟨e, c, hrow, hc, hec⟩ := row_of single r
    rw [s_b] at hrow hc hec
    have hM : M single r = (2 * c + 1) * 2 ^ e := by rw [hrow, ← s_b]; exact M_row single e c (by rw [s_b]; exact hc) (by rw [s_b]; exact hec)
    have he : e ≤ 254 := by
      refine Nat.le_of_not_lt fun hlt => ?_
      have : 255 * 8388608 ≤ e * 8388608 := Nat.mul_le_mul_right _ hlt
      have hi : single.infRung = 2139095040 := by decide
      omega
    obtain ⟨T, hT⟩ := has_rung double (e + 924) (2 * c + 1) (by rw [d_b]; omega)
    obtain ⟨F, hF⟩ : ∃ F, F = e + 924 := ⟨_, rfl⟩
    rw [← hF] at hT
    obtain ⟨D, hD⟩ : ∃ D : Nat, D = 924 := ⟨_, rfl⟩
    have hMT : M single r * 2 ^ E = 2 * V double T := by
      rw [hM, hT, hF, ← hD, show E = D + 1 from by omega, Nat.pow_succ, Nat.pow_add 2 e D]
      ac_rfl
    rw [hMT]
    have hTi : T < double.infRung := by
      refine rung_fin double ?_
      rw [hT, V_inf double (by decide), d_b]
      have a1 : (2 * c + 1) * 2 ^ F < 2 ^ 25 * 2 ^ F := Nat.mul_lt_mul_of_pos_right (by omega) (Nat.two_pow_pos _)
      rw [← Nat.pow_add] at a1
      have a2 : 2 ^ (25 + F) ≤ 2 ^ (2 ^ double.exponentBits - 2) := Nat.pow_le_pow_right (by omega) (by
        have : 2 ^ double.exponentBits - 2 = 2046 := by decide
        omega)
      exact Nat.lt_of_lt_of_le (Nat.lt_of_lt_of_le a1 a2) (Nat.le_mul_of_pos_left _ (by omega))
    have hT0 : 0 < T := by
      refine rung_fin double ?_
      rw [hT, show V double 0 = 0 from by decide]
      exact Nat.mul_pos (by omega) (Nat.two_pow_pos _)
    -- the row of T
    obtain ⟨g, q, hTrow, hq, hgq⟩ := row_of double T
    have hTV : V double T = q * 2 ^ g := by rw [hTrow]; exact V_row double g q (by omega) hgq
    rw [d_b] at hq hgq
    have hbig : q * 2 ^ g = (2 * c + 1) * 2 ^ F := by rw [← hTV, hT]
    have hFg : g + 28 ≤ F := by
      refine Nat.le_of_not_lt fun hlt => ?_
      have hq52 : 2 ^ 52 ≤ q := by
        rcases hgq with h0 | h0
        · exfalso
          rw [h0, Nat.pow_zero, Nat.mul_one] at hbig
          have a1 : 2 ^ 60 ≤ 2 ^ F := Nat.pow_le_pow_right (by omega) (by omega)
          have a2 : 2 ^ F ≤ (2 * c + 1) * 2 ^ F := Nat.le_mul_of_pos_left _ (by omega)
          omega
        · omega
      have a1 : 2 ^ 52 * 2 ^ g ≤ q * 2 ^ g := Nat.mul_le_mul_right _ hq52
      have a2 : (2 * c + 1) * 2 ^ F < 2 ^ 25 * 2 ^ F := Nat.mul_lt_mul_of_pos_right (by omega) (Nat.two_pow_pos _)
      have a3 : 2 ^ 25 * 2 ^ F ≤ 2 ^ 52 * 2 ^ g := by
        rw [← Nat.pow_add, ← Nat.pow_add]
        exact Nat.pow_le_pow_right (by omega) (by omega)
      omega
    have hq52 : double.binade ≤ q := by
      rw [d_b]
      rcases hgq with h0 | h0
      · exfalso
        rw [h0, Nat.pow_zero, Nat.mul_one] at hbig
        have a1 : 2 ^ 60 ≤ 2 ^ F := Nat.pow_le_pow_right (by omega) (by omega)
        have a2 : 2 ^ F ≤ (2 * c + 1) * 2 ^ F := Nat.le_mul_of_pos_left _ (by omega)
        omega
      · exact h0
    obtain ⟨v1, v2⟩ := V_near double g q (by rw [d_b]; exact hq) hq52
    rw [← hTrow] at v1 v2
    obtain ⟨G1, G2⟩ := gap (2 * c + 1) F m I g (V double T) W (by omega) (by omega) (by omega) hFg hT hW
    have hMT1 : M double T = 2 * V double T + 2 ^ g := by unfold M; rw [v1]; omega
    have hMT0 : 2 * V double T ≤ M double (T - 1) + 2 ^ g ∧ M double (T - 1) < 2 * V double T := by
      unfold M
      rw [show T - 1 + 1 = T from by omega]
      have := V_strict double (show T - 1 < T by omega)
      omega
    have hy5 := hy4 T hTi
    have hy6 := hy4 (T - 1) (by omega)
    rw [hdU] at hy5 hy6
    -- the squares
    generalize hVT : V double T = VT at *
    have hx4 : 4 * W < 2 * VT * (2 * VT) ↔ W < VT * VT := by
      have : 2 * VT * (2 * VT) = 4 * (VT * VT) := by show _ = (2 * 2) * _; ac_rfl
      omega
    have hx5 : 4 * W = 2 * VT * (2 * VT) ↔ W = VT * VT := by
      have : 2 * VT * (2 * VT) = 4 * (VT * VT) := by show _ = (2 * 2) * _; ac_rfl
      omega
    rw [hx4, hx5]
    have hcmp1 : 2 * V double Ry < 2 * VT ↔ Ry < T := by
      rw [← hVT]
      constructor
      · intro h; exact rung_fin double (by omega)
      · intro h; have := V_strict double h; omega
    have hcmp2 : 2 * V double Ry = 2 * VT ↔ Ry = T := by
      rw [← hVT]
      constructor
      · intro h
        rcases Nat.lt_trichotomy Ry T with h8 | h8 | h8
        · have := V_strict double h8; omega
        · exact h8
        · have := V_strict double h8; omega
      · intro h; rw [h]
    rw [hcmp1, hcmp2]
    have hg0 : 0 < 2 ^ g := Nat.two_pow_pos _
    have hlow : W < VT * VT → 4 * W < M double (T - 1) * M double (T - 1) := by
      intro h
      have a1 := G1 h
      have a2 : (2 * VT) * (2 * VT) ≤ (M double (T - 1) + 2 ^ g) * (2 * VT) := Nat.mul_le_mul_right _ hMT0.1
      have a3 : (M double (T - 1)) * (2 * VT) ≤ (M double (T - 1)) * (M double (T - 1) + 2 ^ g) := Nat.mul_le_mul_left _ hMT0.1
      rw [Nat.add_mul] at a2
      rw [Nat.mul_add] at a3
      have a4 : 2 * VT * (2 * VT) = 4 * (VT * VT) := by show _ = (2 * 2) * _; ac_rfl
      have a5 : M double (T - 1) * 2 ^ g < 2 * VT * 2 ^ g := Nat.mul_lt_mul_of_pos_right hMT0.2 hg0
      have a6 : 2 ^ g * (2 * VT) = 2 * (VT * 2 ^ g) := by ac_rfl
      have a7 : 2 * VT * 2 ^ g = 2 * (VT * 2 ^ g) := by ac_rfl
      generalize M double (T - 1) * M double (T - 1) = mm at *
      generalize M double (T - 1) * (2 * VT) = m1 at *
      generalize M double (T - 1) * 2 ^ g = m2 at *
      generalize VT * 2 ^ g = m3 at *
      generalize VT * VT = vv at *
      omega
    have hhigh : VT * VT < W → M double T * M double T < 4 * W := by
      intro h
      have a1 := G2 h
      rw [hMT1]
      have a2 : (2 * VT + 2 ^ g) * (2 * VT + 2 ^ g) = 4 * (VT * VT) + 4 * (VT * 2 ^ g) + 2 ^ g * 2 ^ g := by
        rw [Nat.add_mul, Nat.mul_add, Nat.mul_add]
        have b1 : 2 * VT * (2 * VT) = 4 * (VT * VT) := by show _ = (2 * 2) * _; ac_rfl
        have b2 : 2 * VT * 2 ^ g = 2 * (VT * 2 ^ g) := by ac_rfl
        have b3 : 2 ^ g * (2 * VT) = 2 * (VT * 2 ^ g) := by ac_rfl
        omega
      have a3 : 2 ^ g * 2 ^ g ≤ VT * 2 ^ g := by
        refine Nat.mul_le_mul_right _ ?_
        rw [hTV]
        exact Nat.le_mul_of_pos_left _ (by have : 0 < double.binade := by decide
                                           omega)
      rw [a2]
      generalize VT * 2 ^ g = m3 at *
      generalize VT * VT = vv at *
      omega
    constructor
    · rintro (h | ⟨h, h'⟩)
      · left
        have a1 := hy6.1 (by omega)
        have a2 : M double (T - 1) * M double (T - 1) < 2 * VT * (2 * VT) := Nat.mul_lt_mul'' hMT0.2 hMT0.2
        have : 2 * VT * (2 * VT) = 4 * (VT * VT) := by show _ = (2 * 2) * _; ac_rfl
        omega
      · have a1 := hy5.1 (by omega)
        rcases Nat.lt_trichotomy W (VT * VT) with h8 | h8 | h8
        · exact .inl h8
        · exact .inr ⟨h8, h'⟩
        · have := hhigh h8; omega
    · rintro (h | ⟨h, h'⟩)
      · left
        have a1 := hy6.2 (.inl (hlow h))
        omega
      · have a1 := hy5.2 (.inl (by
          have a2 : 2 * VT * (2 * VT) < M double T * M double T := Nat.mul_lt_mul'' (by omega) (by omega)
          have : 2 * VT * (2 * VT) = 4 * (VT * VT) := by show _ = (2 * 2) * _; ac_rfl
          omega))
        rcases Nat.lt_or_ge Ry T with h8 | h8
        · exact .inl h8
        · exact .inr ⟨by omega, h'⟩
  have hsame : rungOf single my (-1074 + ky) = Rs := rung_unique (rungOf_le_inf _ _ _) hs2 fun r hr => by rw [n3 r hr, key r hr, hs3 r hr]
  have hsfin : Rs < single.infRung := by
    have hlast : UptoS single m (-149 + k) (single.infRung - 1) := by
      unfold UptoS
      left
      rw [s_l, show (-149 + (k : Int) - 2 * -149).toNat = k + 149 from by omega, show (2 * -149 - (-149 + (k : Int))).toNat = 0 from by omega, Nat.pow_zero, Nat.mul_one]
      have g1 : V single single.infRung ≤ M single (single.infRung - 1) := by
        unfold M
        rw [show single.infRung - 1 + 1 = single.infRung from by decide]
        exact Nat.le_add_left _ _
      obtain ⟨Q, hQ, hQ2⟩ : ∃ Q : Nat, 2 ^ single.exponentBits - 2 = Q ∧ Q = 254 := ⟨_, rfl, by decide⟩
      rw [V_inf single (by decide), s_b, hQ, show (8388608 : Nat) = 2 ^ 23 from by decide, ← Nat.pow_add] at g1
      have g3 : 2 ^ (23 + Q) * 2 ^ (23 + Q) ≤ M single (single.infRung - 1) * M single (single.infRung - 1) := Nat.mul_le_mul g1 g1
      have g4 : 4 * (m * 2 ^ (k + 149)) < 2 ^ (23 + Q) * 2 ^ (23 + Q) := by
        rw [← Nat.pow_add]
        have a1 : m * 2 ^ (k + 149) < 2 ^ 24 * 2 ^ (k + 149) := Nat.mul_lt_mul_of_pos_right (by omega) (Nat.two_pow_pos _)
        rw [← Nat.pow_add] at a1
        have a2 : 2 ^ (2 + (24 + (k + 149))) ≤ 2 ^ (23 + Q + (23 + Q)) := Nat.pow_le_pow_right (by omega) (by omega)
        rw [Nat.pow_add 2 2] at a2
        generalize 2 ^ (23 + Q + (23 + Q)) = B at *
        omega
      omega
    have := (hs3 (single.infRung - 1) (by decide)).2 hlast
    have h9 : 0 < single.infRung := by decide
    omega
  refine ⟨R0, Ry, Rs, hw1, ?_, ?_, ?_, hsfin, m, k, h1, h2, by omega, hs3⟩
  · unfold Format.sqrt
    rw [h5]
    exact hy1
  · unfold Go.floatToFloatBits
    rw [if_neg (by decide), show Go.FloatKind.f64.decode (double.word false Ry) = _ from n1]
    simp only
    rw [show Go.FloatKind.f32.encode (.number false my (-1074 + ky)) = single.word false Rs from by rw [← hsame]; exact n2]
    obtain ⟨m9, k9, h9, -⟩ := read_word single false Rs hsfin
    rw [show Go.FloatKind.f32.decode (single.word false Rs) = _ from h9]
    rfl
  · unfold Format.sqrt
    rw [h1]
    exact hs1
end Go.Proofs.Ytllchfdddfmjbaa
