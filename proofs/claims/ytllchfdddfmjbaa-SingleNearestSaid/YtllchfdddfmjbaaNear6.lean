/- Plain laws of SingleNearest: roots. -/
import Derived.Test.YtllchfdddfmjbaaNear5
namespace Go.Proofs.Ytllchfdddfmjbaa
open Go.RowKit Ieee
set_option linter.unusedVariables false

theorem root_mid (a R : Nat) (fa : Fin32 a) (hs : (a / 2147483648 % 2 == 1) = false) (h0 : 0 < a % 2147483648) (hR : rootW a = R) :
    R < 2139095040 ∧ 0 < R ∧ ∀ w, Calls Try.prog 28 #[.int .u64 (rm a : Int), .int .i64 (rp a), .int .u64 ((hlo R * hlo R : Nat) : Int), .int .u64 (((4 * rm R + 2) * (4 * rm R + 2) : Nat) : Int), .int .i64 (2 * (rp R - 2)), .bool (rm R % 2 == 0)] w fun e w' => e = .returned (.bool true) ∧ w = w' := by
  obtain ⟨R', e1, e2, e3⟩ := root_fin a fa hs h0
  have hw : single.word false R' = R' := by unfold Format.word; simp
  rw [hR, hw] at e1
  subst e1
  have hV := rm_val a fa
  have hVp := V_pos h0
  have pa := rp_fin a fa
  have la := rm_lt a
  have up : ∀ r, UptoS single (V single (a % 2147483648)) (-149) r ↔ (4 * (V single (a % 2147483648) * 2 ^ 149) < M single r * M single r ∨ (4 * (V single (a % 2147483648) * 2 ^ 149) = M single r * M single r ∧ r % 2 = 0)) := fun r => by
    unfold UptoS
    rw [s_l, show ((-149 : Int) - 2 * -149).toNat = 149 from rfl, show (2 * (-149 : Int) - -149).toNat = 0 from rfl, Nat.pow_zero, Nat.mul_one]
  have hfin : R < 2139095040 := by
    refine Nat.lt_of_not_le fun hc => ?_
    have h1 : ¬ R ≤ 2139095039 := by omega
    rw [e3 2139095039 (by omega), up] at h1
    refine h1 (.inl ?_)
    have hm := M_row single 253 16777215 (by rw [s_b]; omega) (.inr (by rw [s_b]; omega))
    rw [s_b, show 253 * 8388608 + 16777215 = 2139095039 from by omega] at hm
    have hlt : V single (a % 2147483648) < M single 2139095039 := by
      unfold Fin32 at fa
      have h2 := V_mono single (show a % 2147483648 ≤ 2139095039 by omega)
      have h3 : 0 < V single (2139095039 + 1) := V_pos (by omega)
      show _ < V single 2139095039 + V single (2139095039 + 1)
      omega
    have hbig : 4 * 2 ^ 149 ≤ M single 2139095039 := by
      rw [hm]
      obtain ⟨C, hC⟩ : ∃ C : Nat, C = 253 := ⟨_, rfl⟩
      rw [← hC]
      have h2 : 2 ^ 151 ≤ 2 ^ C := Nat.pow_le_pow_right (by omega) (by omega)
      have h3 : 2 ^ C ≤ (2 * 16777215 + 1) * 2 ^ C := Nat.le_mul_of_pos_left _ (by omega)
      omega
    generalize M single 2139095039 = m at *
    generalize V single (a % 2147483648) = v at *
    have h4 : v * (4 * 2 ^ 149) ≤ v * m := Nat.mul_le_mul_left _ hbig
    have h5 : v * m < m * m := Nat.mul_lt_mul_of_pos_right hlt (by omega)
    omega
  have hpos : 0 < R := by
    refine Nat.pos_of_ne_zero fun hz => ?_
    have h1 : R ≤ 0 := by omega
    rw [e3 0 (by omega), up, show M single 0 * M single 0 = 1 from by decide +kernel] at h1
    omega
  have fR : Fin32 R := by unfold Fin32; omega
  have hRm : R % 2147483648 = R := by omega
  refine ⟨hfin, hpos, fun w => ?_⟩
  have pR := rp_fin R fR
  have lR := rm_lt R
  have hl : hlo R ≤ 4 * rm R := by unfold hlo; split <;> omega
  have m1 := mid_hi R fR
  have m2 := mid_lo R fR (by omega)
  have hev := rm_even R
  rw [hRm] at m1 m2 hev
  have u1 := (up R).1 ((e3 R hfin).1 (Nat.le_refl _))
  have u2 : ¬ (4 * (V single (a % 2147483648) * 2 ^ 149) < M single (R - 1) * M single (R - 1) ∨ (4 * (V single (a % 2147483648) * 2 ^ 149) = M single (R - 1) * M single (R - 1) ∧ (R - 1) % 2 = 0)) := fun hc => by
    have := (e3 (R - 1) (by omega)).2 ((up (R - 1)).2 hc)
    omega
  obtain ⟨K, hK⟩ : ∃ K : Nat, rp R + 149 = K := Int.eq_ofNat_of_zero_le (by omega)
  obtain ⟨A, hA⟩ : ∃ A : Nat, rp a + (302 : Nat) = A := Int.eq_ofNat_of_zero_le (by omega)
  rw [show (rp R + 149).toNat = K from by omega] at m1 m2
  have eX : rm a * 2 ^ A = 4 * (4 * (V single (a % 2147483648) * 2 ^ 149)) := by
    rw [hV, show A = (rp a + 149).toNat + 149 + 4 from by omega, Nat.pow_add, Nat.pow_add]
    show rm a * (2 ^ (rp a + 149).toNat * 2 ^ 149 * 16) = _
    generalize 2 ^ (rp a + 149).toNat = p
    generalize 2 ^ 149 = q
    rw [← Nat.mul_assoc 4 4]
    show _ = 16 * (rm a * p * q)
    ac_rfl
  have eH : (4 * rm R + 2) * (4 * rm R + 2) * 2 ^ (2 * K) = 4 * (M single R * M single R) := by
    rw [m1, show 2 * K = K + K from by omega, Nat.pow_add, show 4 * rm R + 2 = 2 * (2 * rm R + 1) from by omega]
    generalize 2 * rm R + 1 = u
    generalize 2 ^ K = v
    rw [show 2 * u * (2 * u) * (v * v) = 2 * 2 * (u * v * (u * v)) from by ac_rfl]
  have eL : hlo R * hlo R * 2 ^ (2 * K) = 4 * (M single (R - 1) * M single (R - 1)) := by
    rw [show 2 * K = K + K from by omega, Nat.pow_add, show hlo R * hlo R * (2 ^ K * 2 ^ K) = (hlo R * 2 ^ K) * (hlo R * 2 ^ K) from by ac_rfl, ← m2]
    generalize M single (R - 1) = u
    rw [show 2 * u * (2 * u) = 2 * 2 * (u * u) from by ac_rfl]
  have hb : (rm R % 2 == 0) = true ↔ R % 2 = 0 := by rw [beq_iff_eq]; omega
  obtain ⟨N, hN⟩ : ∃ N, V single (a % 2147483648) * 2 ^ 149 = N := ⟨_, rfl⟩
  rw [hN] at u1 u2 eX
  clear hN up e3 hV hVp m1 m2
  have b1 : hlo R * hlo R ≤ 67108860 * 67108860 := Nat.mul_le_mul (by omega) (by omega)
  have b2 : (4 * rm R + 2) * (4 * rm R + 2) ≤ 67108862 * 67108862 := Nat.mul_le_mul (by omega) (by omega)
  refine bet' (rm a) (hlo R * hlo R) ((4 * rm R + 2) * (4 * rm R + 2)) (2 * K) A 302 (rp a) (2 * (rp R - 2)) _ (by omega) (by omega) (by omega) (by omega) (by omega) (by omega) (by omega) (by omega) ?_ ?_ w
  · rw [eL, eX, hb]
    generalize M single (R - 1) * M single (R - 1) = u at *
    omega
  · rw [eH, eX, hb]
    generalize M single R * M single R = u at *
    omega
end Go.Proofs.Ytllchfdddfmjbaa
