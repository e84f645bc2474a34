/- Plain laws of SingleNearest: middles of products, quotients and roots; 'between' at any power. -/
import Derived.Test.YtllchfdddfmjbaaNear3
namespace Go.Proofs.Ytllchfdddfmjbaa
open Go.RowKit Ieee
set_option linter.unusedVariables false

/-- Both sides at another scale. -/
theorem scaleN (x A c a U T : Nat) (hT : 0 < T) (hA : 2 ^ A * T = 2 ^ (c + 2) * U) :
    (x * 2 ^ A < 2 * a * 2 ^ c ↔ 2 * (x * U) < a * T) ∧ (x * 2 ^ A = 2 * a * 2 ^ c ↔ 2 * (x * U) = a * T) := by
  have hc : 0 < 2 ^ c := Nat.two_pow_pos c
  have e1 : x * 2 ^ A * T = 2 * (x * U) * (2 * 2 ^ c) := by
    rw [Nat.mul_assoc, hA, Nat.pow_add]
    show x * (2 ^ c * 4 * U) = _
    rw [show 2 * (x * U) * (2 * 2 ^ c) = 4 * (x * U * 2 ^ c) from by rw [Nat.mul_assoc 2 (x * U), Nat.mul_left_comm (x * U) 2, ← Nat.mul_assoc 2 2]]
    rw [show x * (2 ^ c * 4 * U) = 4 * (x * U * 2 ^ c) from by ac_rfl]
  have e2 : 2 * a * 2 ^ c * T = a * T * (2 * 2 ^ c) := by ac_rfl
  have hp : 0 < 2 * 2 ^ c := by omega
  constructor
  · rw [← Nat.mul_lt_mul_right hT, e1, e2, Nat.mul_lt_mul_right hp]
  · constructor
    · intro h
      have : x * 2 ^ A * T = 2 * a * 2 ^ c * T := by rw [h]
      rw [e1, e2] at this
      exact Nat.eq_of_mul_eq_mul_right hp this
    · intro h
      have h2 : x * 2 ^ A * T = 2 * a * 2 ^ c * T := by rw [e1, e2, h]
      exact Nat.eq_of_mul_eq_mul_right hT h2

/-- What lies at a rung lies between the middles: x over Y. -/
theorem mid_core (r x Y A c U T : Nat) (h : Fin32 r) (h0 : 0 < r % 2147483648) (hT : 0 < T) (hA : 2 ^ A * T = 2 ^ (c + 2) * U)
    (h1 : 2 * (x * U) < M single (r % 2147483648) * (Y * T) ∨ (2 * (x * U) = M single (r % 2147483648) * (Y * T) ∧ r % 2147483648 % 2 = 0))
    (h2 : ¬ (2 * (x * U) < M single (r % 2147483648 - 1) * (Y * T) ∨ (2 * (x * U) = M single (r % 2147483648 - 1) * (Y * T) ∧ (r % 2147483648 - 1) % 2 = 0))) :
    (hlo r * Y * 2 ^ ((rp r + 149).toNat + c) < x * 2 ^ A ∨ (hlo r * Y * 2 ^ ((rp r + 149).toNat + c) = x * 2 ^ A ∧ (rm r % 2 == 0) = true)) ∧
    (x * 2 ^ A < (4 * rm r + 2) * Y * 2 ^ ((rp r + 149).toNat + c) ∨ (x * 2 ^ A = (4 * rm r + 2) * Y * 2 ^ ((rp r + 149).toNat + c) ∧ (rm r % 2 == 0) = true)) := by
  have hev := rm_even r
  have hb : (rm r % 2 == 0) = true ↔ r % 2147483648 % 2 = 0 := by rw [beq_iff_eq]; omega
  rw [hb]
  have m1 := mid_hi r h
  have m2 := mid_lo r h h0
  have e1 : (4 * rm r + 2) * Y * 2 ^ ((rp r + 149).toNat + c) = 2 * (M single (r % 2147483648) * Y) * 2 ^ c := by
    rw [m1, Nat.pow_add, show 4 * rm r + 2 = 2 * (2 * rm r + 1) from by omega]; ac_rfl
  have e2 : hlo r * Y * 2 ^ ((rp r + 149).toNat + c) = 2 * (M single (r % 2147483648 - 1) * Y) * 2 ^ c := by
    rw [Nat.pow_add, show hlo r * Y * (2 ^ (rp r + 149).toNat * 2 ^ c) = hlo r * 2 ^ (rp r + 149).toNat * Y * 2 ^ c from by ac_rfl, ← m2]; ac_rfl
  rw [e1, e2]
  obtain ⟨s1, s2⟩ := scaleN x A c (M single (r % 2147483648) * Y) U T hT hA
  obtain ⟨s3, s4⟩ := scaleN x A c (M single (r % 2147483648 - 1) * Y) U T hT hA
  have a1 : M single (r % 2147483648) * (Y * T) = M single (r % 2147483648) * Y * T := by rw [Nat.mul_assoc]
  have a2 : M single (r % 2147483648 - 1) * (Y * T) = M single (r % 2147483648 - 1) * Y * T := by rw [Nat.mul_assoc]
  rw [← a1] at s1 s2
  rw [← a2] at s3 s4
  generalize M single (r % 2147483648) * (Y * T) = p at *
  generalize M single (r % 2147483648 - 1) * (Y * T) = q at *
  refine ⟨?_, ?_⟩
  · rcases Nat.lt_trichotomy (2 * (x * U)) q with g | g | g
    · exact absurd (.inl g) h2
    · right
      exact ⟨(s4.2 (by omega)).symm, by
        by_cases ho : (r % 2147483648 - 1) % 2 = 0
        · exact absurd (.inr ⟨g, ho⟩) h2
        · omega⟩
    · left
      refine Nat.lt_of_not_le fun hc => ?_
      rcases Nat.lt_or_eq_of_le hc with hc | hc
      · have := s3.1 hc; omega
      · have := s4.1 hc; omega
  · rcases h1 with g | ⟨g, ho⟩
    · exact .inl (s1.2 (by omega))
    · exact .inr ⟨s2.2 (by omega), ho⟩

/-- 'between' at any power, with an offset. -/
theorem bet' (x lo hi K A c : Nat) (pw half : Int) (ends : Bool) (hx : x < 4611686018427387904) (hlo : lo < 18446744073709551616) (hhi : hi < 4611686018427387904) (hA : pw + c = A) (hK : half + c = K) (hA2 : A ≤ 90000) (hK2 : K ≤ 90000) (hc2 : c ≤ 90000)
    (h1 : lo * 2 ^ K < x * 2 ^ A ∨ (lo * 2 ^ K = x * 2 ^ A ∧ ends = true)) (h2 : x * 2 ^ A < hi * 2 ^ K ∨ (x * 2 ^ A = hi * 2 ^ K ∧ ends = true)) (w : World) :
    Calls Try.prog 28 #[.int .u64 (x : Int), .int .i64 pw, .int .u64 (lo : Int), .int .u64 (hi : Int), .int .i64 half, .bool ends] w fun e w' => e = .returned (.bool true) ∧ w = w' := by
  by_cases hup : half ≤ pw
  · obtain ⟨n, hn⟩ : ∃ n : Nat, pw - half = n := Int.eq_ofNat_of_zero_le (by omega)
    have hK0 : 0 < 2 ^ K := Nat.two_pow_pos K
    have e : x * 2 ^ A = x * 2 ^ n * 2 ^ K := by rw [Nat.mul_assoc, ← Nat.pow_add, show n + K = A from by omega]
    rw [e] at h1 h2
    have g1 : lo < x * 2 ^ n ∨ (lo = x * 2 ^ n ∧ ends = true) := by
      rcases h1 with h | ⟨h, g⟩
      · exact .inl (Nat.lt_of_mul_lt_mul_right h)
      · exact .inr ⟨Nat.eq_of_mul_eq_mul_right hK0 h, g⟩
    have g2 : x * 2 ^ n < hi ∨ (x * 2 ^ n = hi ∧ ends = true) := by
      rcases h2 with h | ⟨h, g⟩
      · exact .inl (Nat.lt_of_mul_lt_mul_right h)
      · exact .inr ⟨Nat.eq_of_mul_eq_mul_right hK0 h, g⟩
    have hv : shW x n = x * 2 ^ n := by
      unfold shW
      rw [if_pos (by rcases g2 with h | ⟨h, -⟩ <;> omega)]
    exact between_core (shW x n) lo hi pw half lo hi x ends true n (by omega) (by omega) (by omega) (by omega) (decide_eq_true hup) (by rw [if_pos rfl, hn]; exact IntWalk.i64_in _ (by omega)) rfl rfl rfl (by rw [hv]; exact g1) (by rw [hv]; exact g2) w
  · obtain ⟨n, hn⟩ : ∃ n : Nat, half - pw = n := Int.eq_ofNat_of_zero_le (by omega)
    have hA0 : 0 < 2 ^ A := Nat.two_pow_pos A
    have e : ∀ c : Nat, c * 2 ^ K = c * 2 ^ n * 2 ^ A := fun c => by rw [Nat.mul_assoc, ← Nat.pow_add, show n + A = K from by omega]
    rw [e] at h1 h2
    have g1 : lo * 2 ^ n < x ∨ (lo * 2 ^ n = x ∧ ends = true) := by
      rcases h1 with h | ⟨h, g⟩
      · exact .inl (Nat.lt_of_mul_lt_mul_right h)
      · exact .inr ⟨Nat.eq_of_mul_eq_mul_right hA0 h, g⟩
    have g2 : x < hi * 2 ^ n ∨ (x = hi * 2 ^ n ∧ ends = true) := by
      rcases h2 with h | ⟨h, g⟩
      · exact .inl (Nat.lt_of_mul_lt_mul_right h)
      · exact .inr ⟨Nat.eq_of_mul_eq_mul_right hA0 h, g⟩
    have hv : shW lo n = lo * 2 ^ n := by
      unfold shW
      rw [if_pos (by rcases g1 with h | ⟨h, -⟩ <;> omega)]
    have hh : x < shW hi n ∨ (x = shW hi n ∧ ends = true) := by
      unfold shW
      by_cases hc : hi * 2 ^ n ≤ 4611686018427387904
      · rw [if_pos hc]; exact g2
      · rw [if_neg hc]; exact .inl hx
    exact between_core x (shW lo n) (shW hi n) pw half lo hi x ends false n (by omega) (by omega) (by omega) (by omega) (decide_eq_false hup) (by rw [if_neg Bool.false_ne_true, hn]; exact IntWalk.i64_in _ (by omega)) rfl rfl rfl (by rw [hv]; exact g1) hh w

/-! ### Products -/
theorem scales (P : Int) (c A : Nat) (hA : P + 151 + c = A) : 2 ^ A * 2 ^ (-149 - P).toNat = 2 ^ (c + 2) * 2 ^ (P - -149).toNat := by
  rw [← Nat.pow_add, ← Nat.pow_add]
  congr 1
  omega
theorem product_rung (a b S : Nat) (ha : a ≤ 4294967295) (hb : b ≤ 4294967295) (fa : Fin32 a) (fb : Fin32 b) (hS : productW a b = S) (hSl : S ≤ 4294967295) (h0 : 0 < S % 2147483648) :
    rungOf single (rm a * rm b) (rp a + rp b) = S % 2147483648 ∧ (S / 2147483648 % 2 == 1) = ((a / 2147483648 % 2 == 1) ^^ (b / 2147483648 % 2 == 1)) := by
  obtain ⟨k1, k2⟩ := product_key a b fa fb
  rw [hS] at k1 k2
  have pa := rp_fin a fa
  have pb := rp_fin b fb
  have va := rm_val a fa
  have vb := rm_val b fb
  have e : rungOf single (sval a * sval b).natAbs (-298) = rungOf single (rm a * rm b) (rp a + rp b) := by
    rw [Int.natAbs_mul, sval_abs, sval_abs, va, vb, show rp a + rp b = -298 + (((rp a + 149).toNat + (rp b + 149).toNat : Nat) : Int) from by omega, rung_shift, Nat.pow_add]
    congr 1
    ac_rfl
  rw [key_form S hSl] at k2
  unfold keyR at k2
  rw [e] at k2
  have hne : sval a * sval b ≠ 0 := by
    intro h
    rw [h] at e
    rw [← e] at k2
    rw [h, show rungOf single (0 : Int).natAbs (-298) = 0 from rfl] at k2
    split at k2 <;> omega
  have hx : sval a ≠ 0 := fun h => hne (by rw [h, Int.zero_mul])
  have hy : sval b ≠ 0 := fun h => hne (by rw [h, Int.mul_zero])
  have sa := sval_neg a hx
  have sb := sval_neg b hy
  have hsg : decide (sval a * sval b < 0) = ((a / 2147483648 % 2 == 1) ^^ (b / 2147483648 % 2 == 1)) := by
    rw [sa, sb]
    by_cases h5 : sval a < 0 <;> by_cases h6 : sval b < 0
    · have := Int.mul_pos_of_neg_of_neg h5 h6
      rw [decide_eq_true h5, decide_eq_true h6, decide_eq_false (by omega)]; rfl
    · have := Int.mul_neg_of_neg_of_pos h5 (show 0 < sval b by omega)
      rw [decide_eq_true h5, decide_eq_false h6, decide_eq_true (by omega)]; rfl
    · have := Int.mul_neg_of_pos_of_neg (show 0 < sval a by omega) h6
      rw [decide_eq_false h5, decide_eq_true h6, decide_eq_true (by omega)]; rfl
    · have := Int.mul_pos (show 0 < sval a by omega) (show 0 < sval b by omega)
      rw [decide_eq_false h5, decide_eq_false h6, decide_eq_false (by omega)]; rfl
  rw [← hsg]
  generalize (S / 2147483648 % 2 == 1) = s at *
  by_cases hneg : sval a * sval b < 0
  · rw [if_pos hneg] at k2
    rw [decide_eq_true hneg]
    cases s
    · rw [if_neg Bool.false_ne_true] at k2; omega
    · rw [if_pos rfl] at k2; exact ⟨by omega, rfl⟩
  · rw [if_neg hneg] at k2
    rw [decide_eq_false hneg]
    cases s
    · rw [if_neg Bool.false_ne_true] at k2; exact ⟨by omega, rfl⟩
    · rw [if_pos rfl] at k2; omega
/-- A product lies between its middles. -/
theorem product_mid (a b S : Nat) (ha : a ≤ 4294967295) (hb : b ≤ 4294967295) (fa : Fin32 a) (fb : Fin32 b) (hS : productW a b = S) (hSl : S ≤ 4294967295) (fS : Fin32 S) (h0 : 0 < S % 2147483648) (w : World) :
    Calls Try.prog 28 #[.int .u64 ((rm a * rm b : Nat) : Int), .int .i64 (rp a + rp b), .int .u64 (hlo S : Int), .int .u64 ((4 * rm S + 2 : Nat) : Int), .int .i64 (rp S - 2), .bool (rm S % 2 == 0)] w fun e w' => e = .returned (.bool true) ∧ w = w' := by
  obtain ⟨hr, -⟩ := product_rung a b S ha hb fa fb hS hSl h0
  have pa := rp_fin a fa
  have pb := rp_fin b fb
  have pS := rp_fin S fS
  have la := rm_lt a
  have lb := rm_lt b
  have lS := rm_lt S
  have hl : hlo S ≤ 4 * rm S := by unfold hlo; split <;> omega
  have hxp : 0 < rm a * rm b := by
    refine Nat.pos_of_ne_zero fun hz => ?_
    rw [hz, rung_zero] at hr
    omega
  have hxl : rm a * rm b < 4611686018427387904 := by
    have := Nat.mul_le_mul (show rm a ≤ 16777215 by omega) (show rm b ≤ 16777215 by omega)
    omega
  obtain ⟨A, hA⟩ : ∃ A : Nat, rp a + rp b + 151 + (200 : Nat) = A := Int.eq_ofNat_of_zero_le (by omega)
  have hfin : S % 2147483648 < single.infRung := by rw [single_inf]; exact fS
  have u1 := (rungOf_le single (by decide) _ hxp (rp a + rp b) (S % 2147483648) hfin).1 (by omega)
  have u2 : ¬ rungOf single (rm a * rm b) (rp a + rp b) ≤ S % 2147483648 - 1 := by omega
  rw [rungOf_le single (by decide) _ hxp (rp a + rp b) (S % 2147483648 - 1) (by omega)] at u2
  unfold Upto at u1 u2
  rw [s_l] at u1 u2
  have g := mid_core S (rm a * rm b) 1 A 200 (2 ^ (rp a + rp b - -149).toNat) (2 ^ (-149 - (rp a + rp b)).toNat) fS h0 (Nat.two_pow_pos _) (scales _ 200 A hA) (by rw [Nat.one_mul]; exact u1) (by rw [Nat.one_mul]; exact u2)
  rw [Nat.mul_one, Nat.mul_one] at g
  exact bet' (rm a * rm b) (hlo S) (4 * rm S + 2) ((rp S + 149).toNat + 200) A 351 (rp a + rp b) (rp S - 2) _ hxl (by omega) (by omega) (by omega) (by omega) (by omega) (by omega) (by omega) g.1 g.2 w
end Go.Proofs.Ytllchfdddfmjbaa
