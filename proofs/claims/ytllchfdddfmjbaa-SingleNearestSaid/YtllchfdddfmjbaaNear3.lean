/- Plain laws of SingleNearestSum; contract of tooGreat. -/
import Derived.Test.YtllchfdddfmjbaaNear2
namespace Go.Proofs.Ytllchfdddfmjbaa
open Go.RowKit Ieee
set_option linter.unusedVariables false

theorem rp_fin (a : Nat) (h : Fin32 a) : -149 ≤ rp a ∧ rp a ≤ 104 := by unfold Fin32 at h; unfold rp; split <;> omega
theorem tooGreat_any (x d : Nat) (p : Int) (hx : x < 4611686018427387904) (h0 : -149 ≤ p) (h1 : p ≤ 104) (t : Bool) (ht : decide (33554431 * 2 ^ 252 ≤ x * 2 ^ (p + 149).toNat) = t) (w : World) :
    Calls Try.prog 30 #[.int .u64 (x : Int), .int .i64 p] w fun e w' => e = .returned (.bool t) ∧ w = w' := by
  obtain ⟨C, hC⟩ : ∃ C : Nat, C = 252 := ⟨_, rfl⟩
  rw [← hC] at ht
  by_cases hp : 103 < p
  · have hp4 : p = 104 := by omega
    have e : x * 2 ^ (p + 149).toNat = x * 2 * 2 ^ C := by
      rw [show (p + 149).toNat = 1 + C from by omega, Nat.pow_add, Nat.pow_one, Nat.mul_assoc]
    have hT : decide ((33554431 : Int) ≤ (x : Int) * 2) = t := by
      rw [← ht, e]
      refine decide_eq_decide.2 ⟨fun h => Nat.mul_le_mul_right _ (by omega), fun h => ?_⟩
      have := Nat.le_of_mul_le_mul_right h (Nat.two_pow_pos C)
      omega
    have hw : IntKind.u64.wrap ((x : Int) * 2) = (x : Int) * 2 := by rw [IntKind.wrap_u64]; omega
    have hd : decide ((103 : Int) < p) = true := decide_eq_true hp
    have HT := Lib.hid hT
    clear ht e hT hp hp4 hC
    go_enter Try.func30, Try.ntmps30
    go_wp2
    go_ret
    exact ⟨by rw [← HT.out]; first | rfl | (simp; done) | (congr 3; simp; omega), rfl⟩
  · have hd : decide ((103 : Int) < p) = false := decide_eq_false hp
    obtain ⟨n, hn⟩ : ∃ n : Nat, 103 - p = n := Int.eq_ofNat_of_zero_le (by omega)
    have hwn : IntKind.i64.wrap (103 - p) = (n : Int) := by rw [hn]; exact IntWalk.i64_in _ (by omega)
    have e : 33554431 * 2 ^ C = 33554431 * 2 ^ n * 2 ^ (p + 149).toNat := by rw [Nat.mul_assoc, ← Nat.pow_add, show n + (p + 149).toNat = C from by omega]
    rw [e] at ht
    have hcmp : 33554431 * 2 ^ n * 2 ^ (p + 149).toNat ≤ x * 2 ^ (p + 149).toNat ↔ 33554431 * 2 ^ n ≤ x := ⟨fun h => Nat.le_of_mul_le_mul_right h (Nat.two_pow_pos _), fun h => Nat.mul_le_mul_right _ h⟩
    by_cases h39 : n ≤ 39
    · have hd2 : decide ((n : Int) ≤ 39) = true := decide_eq_true (by omega)
      have hmin : min n 64 = n := by omega
      have wn : IntKind.u64.wrap (n : Int) = (n : Int) := by rw [IntKind.wrap_u64]; omega
      obtain ⟨R, hR⟩ : ∃ R, 33554431 * 2 ^ n = R := ⟨_, rfl⟩
      have hRl : R < 18446744073709551616 := by
        have h1 : 2 ^ n ≤ 2 ^ 39 := Nat.pow_le_pow_right (by omega) h39
        omega
      have e1 : IntKind.u64.wrap ((33554431 : Int) * 2 ^ n) = (R : Int) := by
        rw [show (33554431 : Int) * 2 ^ n = ((33554431 * 2 ^ n : Nat) : Int) from by rw [Int.natCast_mul, Int.natCast_pow]; rfl, hR, IntKind.wrap_u64]; omega
      have hT : decide ((R : Int) ≤ (x : Int)) = t := by
        rw [← ht]
        refine decide_eq_decide.2 ?_
        rw [hcmp, hR]
        omega
      have HT := Lib.hid hT
      clear ht e hcmp hT hR hn h39 hC hp
      go_enter Try.func30, Try.ntmps30
      go_wp2
      go_ret
      exact ⟨by rw [← HT.out]; first | rfl | (simp; done) | (congr 3; simp; omega), rfl⟩
    · have hd2 : decide ((n : Int) ≤ 39) = false := decide_eq_false (by omega)
      have hT : t = false := by
        rw [← ht]
        refine decide_eq_false fun h => ?_
        have h2 := hcmp.1 h
        have h3 : 2 ^ 40 ≤ 2 ^ n := Nat.pow_le_pow_right (by omega) (by omega)
        omega
      subst hT
      clear ht e hcmp hn h39 hC hp
      go_enter Try.func30, Try.ntmps30
      go_wp2
      go_ret
      exact ⟨rfl, rfl⟩

theorem keyR_shift (T : Int) (J : Nat) (P : Int) : keyR P (T * (2 ^ J : Nat)) = keyR (P + J) T := by
  have hJ : (0 : Int) < (2 ^ J : Nat) := by have := Nat.two_pow_pos J; omega
  unfold keyR
  rw [Int.natAbs_mul, Int.natAbs_natCast, rung_shift]
  by_cases h : T < 0
  · rw [if_pos h, if_pos (Int.mul_neg_of_neg_of_pos h hJ)]
  · rw [if_neg h, if_neg (by have := Int.mul_nonneg (show 0 ≤ T by omega) (Int.le_of_lt hJ); omega)]
theorem svn_val (a n J : Nat) (ha : a ≤ 4294967295) (h : Fin32 a) (hJ : (n : Int) + J = rp a + 149) : svn a n * (2 ^ J : Nat) = sval a := by
  have hv := rm_val a h
  unfold svn sval
  rw [hv, show (rp a + 149).toNat = n + J from by omega, Nat.pow_add]
  have e : ((rm a * 2 ^ n : Nat) : Int) * (2 ^ J : Nat) = ((rm a * (2 ^ n * 2 ^ J) : Nat) : Int) := by rw [← Int.natCast_mul, Nat.mul_assoc]
  by_cases hs : a < 2147483648
  · rw [if_pos hs, show (a / 2147483648 % 2 == 1) = false from by rw [beq_eq_false_iff_ne]; omega, if_neg Bool.false_ne_true, e]
  · rw [if_neg hs, show (a / 2147483648 % 2 == 1) = true from by rw [beq_iff_eq]; omega, if_pos rfl, Int.neg_mul, e]

/-- The sum of two that are not far apart. -/
theorem sum_near (a b na nb : Nat) (p sum : Int) (ha : a ≤ 4294967295) (hb : b ≤ 4294967295) (fa : Fin32 a) (fb : Fin32 b) (hp : -149 ≤ p) (h1 : rp a - p = na) (h2 : rp b - p = nb) (hs : svn a na + svn b nb = sum) :
    ¬ NoNum (sumW a b) ∧ keyW (sumW a b) = keyR p sum := by
  obtain ⟨J, hJ⟩ : ∃ J : Nat, p + 149 = J := Int.eq_ofNat_of_zero_le (by omega)
  have e1 := svn_val a na J ha fa (by omega)
  have e2 := svn_val b nb J hb fb (by omega)
  obtain ⟨k1, k2⟩ := sum_key a b fa fb
  refine ⟨k1, ?_⟩
  rw [k2, ← e1, ← e2, ← Int.add_mul, hs, keyR_shift, show -149 + (J : Int) = p from by omega]
theorem rung_pos (x : Nat) (p : Int) (hx : 0 < x) (hp : -149 ≤ p) : 0 < rungOf single x p := by
  have h := rungOf_mono single (by decide) 1 x (-149) p (by
    rw [s_l, show ((-149 : Int) - -149).toNat = 0 from rfl, show (-149 - p).toNat = 0 from by omega, Nat.pow_zero]
    have := Nat.mul_pos hx (Nat.two_pow_pos (p - -149).toNat)
    omega)
  rw [show rungOf single 1 (-149) = 1 from by decide +kernel] at h
  omega
theorem rung_great (x : Nat) (p : Int) (hx : 0 < x) (hp : -149 ≤ p) : 33554431 * 2 ^ 252 ≤ x * 2 ^ (p + 149).toNat ↔ rungOf single x p = 2139095040 := by
  have hm := M_row single 253 16777215 (by rw [s_b]; omega) (.inr (by rw [s_b]; omega))
  rw [s_b, show 253 * 8388608 + 16777215 = 2139095039 from by omega] at hm
  have hl := rungOf_le single (by decide) x hx p 2139095039 (by rw [single_inf]; omega)
  have hi := rung_inf x p
  unfold Upto at hl
  rw [s_l, hm, show (-149 - p).toNat = 0 from by omega, Nat.pow_zero, Nat.mul_one, show (p - -149).toNat = (p + 149).toNat from by omega] at hl
  obtain ⟨C, hC⟩ : ∃ C : Nat, C = 252 := ⟨_, rfl⟩
  rw [show 253 = C + 1 from by omega, Nat.pow_succ] at hl
  rw [← hC]
  generalize 2 ^ C = E at *
  generalize x * 2 ^ (p + 149).toNat = y at *
  constructor
  · intro h
    by_cases hc : rungOf single x p ≤ 2139095039
    · have := hl.1 hc; omega
    · omega
  · intro h
    refine Nat.le_of_not_lt fun hc => ?_
    have := hl.2 (.inl (by omega))
    omega

/-- One that is far greater is the sum. -/
theorem sum_far (a b : Nat) (ha : a ≤ 4294967295) (hb : b ≤ 4294967295) (fa : Fin32 a) (fb : Fin32 b) (h : 38 < rp a - rp b) : sumW a b = a := by
  obtain ⟨k1, k2⟩ := sum_key a b fa fb
  have pa := rp_fin a fa
  have pb := rp_fin b fb
  have hr0 : 0 < a % 2147483648 := by
    unfold rp at h pa
    by_cases hE : a / 8388608 % 256 = 0
    · rw [if_pos hE] at h; omega
    · omega
  have hva := rm_val a fa
  have hvb := rm_val b fb
  have m1 := mid_hi a fa
  have m2 := mid_lo a fa hr0
  have hrm := rm_pos a hr0
  have hrb := rm_lt b
  have hhl : hlo a ≤ 4 * rm a - 1 := by unfold hlo; split <;> omega
  have abs1 := sval_abs a
  have abs2 := sval_abs b
  have sg := sval_neg a
  obtain ⟨L, hL⟩ : ∃ L : Nat, rp b + 149 = L := Int.eq_ofNat_of_zero_le (by omega)
  obtain ⟨K, hK⟩ : ∃ K : Nat, rp a + 149 = L + 39 + K := ⟨(rp a + 149 - L - 39).toNat, by omega⟩
  rw [show (rp a + 149).toNat = L + 39 + K from by omega] at hva m1 m2
  rw [show (rp b + 149).toNat = L from by omega] at hvb
  have hB : V single (b % 2147483648) * 32768 < 2 ^ (L + 39 + K) := by
    rw [hvb]
    have h1 : rm b * 2 ^ L * 32768 < 2 ^ 24 * 2 ^ L * 2 ^ 15 := Nat.mul_lt_mul_of_pos_right (Nat.mul_lt_mul_of_pos_right (by omega) (Nat.two_pow_pos L)) (by omega)
    have h2 : 2 ^ 24 * 2 ^ L * 2 ^ 15 = 2 ^ (L + 39) := by rw [← Nat.pow_add, ← Nat.pow_add]; congr 1; omega
    have h3 : 2 ^ (L + 39) ≤ 2 ^ (L + 39 + K) := Nat.pow_le_pow_right (by omega) (by omega)
    omega
  have hm2 : 2 * M single (a % 2147483648 - 1) + 2 ^ (L + 39 + K) ≤ 4 * V single (a % 2147483648) := by
    rw [m2, hva]
    have h1 : hlo a * 2 ^ (L + 39 + K) + 2 ^ (L + 39 + K) ≤ 4 * rm a * 2 ^ (L + 39 + K) := by
      rw [← Nat.succ_mul]
      exact Nat.mul_le_mul_right _ (by omega)
    rw [← Nat.mul_assoc]; exact h1
  have hm1 : M single (a % 2147483648) = 2 * V single (a % 2147483648) + 2 ^ (L + 39 + K) := by rw [m1, hva, Nat.add_mul, Nat.one_mul, Nat.mul_assoc]
  have hVp := V_pos hr0
  have hEp : 0 < 2 ^ (L + 39 + K) := Nat.two_pow_pos _
  have hfin : a % 2147483648 < single.infRung := by rw [single_inf]; exact fa
  clear m1 m2 hva hvb
  generalize 2 ^ (L + 39 + K) = E at *
  -- the rung of the sum
  have key : ∀ N : Nat, V single (a % 2147483648) ≤ N + V single (b % 2147483648) → N ≤ V single (a % 2147483648) + V single (b % 2147483648) → rungOf single N (-149) = a % 2147483648 := by
    intro N g1 g2
    have hVE : E ≤ 4 * V single (a % 2147483648) := by omega
    have hN : 0 < N := by omega
    have u1 := rungOf_le single (by decide) N hN (-149) (a % 2147483648) hfin
    have u2 := rungOf_le single (by decide) N hN (-149) (a % 2147483648 - 1) (by omega)
    unfold Upto at u1 u2
    rw [s_l, show ((-149 : Int) - -149).toNat = 0 from rfl, Nat.pow_zero, Nat.mul_one, Nat.mul_one] at u1 u2
    have v1 := u1.2 (.inl (by omega))
    have v2 : ¬ rungOf single N (-149) ≤ a % 2147483648 - 1 := fun hc => by
      have := u2.1 hc
      omega
    omega
  have hV0 : sval a ≠ 0 := by omega
  have sg' := sg hV0
  have hk : keyW (sumW a b) = keyW a := by
    rw [k2, key_form a ha, sg']
    unfold keyR
    have hbig : V single (b % 2147483648) < V single (a % 2147483648) := by omega
    by_cases hneg : sval a < 0
    · rw [if_pos (by omega), decide_eq_true hneg, if_pos rfl, key _ (by omega) (by omega)]
    · rw [if_neg (by omega), decide_eq_false hneg, if_neg Bool.false_ne_true, key _ (by omega) (by omega)]
  exact (key_inj a (sumW a b) ha (sumW_le a b) hk.symm (by omega)).symm
end Go.Proofs.Ytllchfdddfmjbaa
