/- Plain laws on midpoints, told as the outright laws tell them; contracts of signed, tooGreat. -/
import Derived.Test.YtllchfdddfmjbaaNear1
namespace Go.Proofs.Ytllchfdddfmjbaa
open Go.RowKit Ieee
set_option linter.unusedVariables false

/-- Twice the middles below and above a finite word that is no nought. -/
theorem mid_hi (r : Nat) (h : Fin32 r) : M single (r % 2147483648) = (2 * rm r + 1) * 2 ^ (rp r + 149).toNat := by
  unfold Fin32 at h
  by_cases h0 : r / 8388608 % 256 = 0
  · have e1 : rm r = r % 8388608 := by unfold rm; rw [if_pos h0]
    have e2 : rp r = -149 := by unfold rp; rw [if_pos h0]
    have := M_row single 0 (r % 8388608) (by rw [s_b]; omega) (.inl rfl)
    rw [e1, e2, show ((-149 : Int) + 149).toNat = 0 from rfl]
    rw [Nat.zero_mul, Nat.zero_add] at this
    rw [show r % 2147483648 = r % 8388608 from by omega]
    exact this
  · have e1 : rm r = r % 8388608 + 8388608 := by unfold rm; rw [if_neg h0]
    have e2 : rp r = ((r / 8388608 % 256 : Nat) : Int) - 150 := by unfold rp; rw [if_neg h0]
    have := M_row single (r / 8388608 % 256 - 1) (r % 8388608 + 8388608) (by rw [s_b]; omega) (.inr (by rw [s_b]; omega))
    rw [s_b, show (r / 8388608 % 256 - 1) * 8388608 + (r % 8388608 + 8388608) = r % 2147483648 from by omega] at this
    rw [e1, e2, show (((r / 8388608 % 256 : Nat) : Int) - 150 + 149).toNat = r / 8388608 % 256 - 1 from by omega]
    exact this
theorem mid_lo (r : Nat) (h : Fin32 r) (h0 : 0 < r % 2147483648) : 2 * M single (r % 2147483648 - 1) = hlo r * 2 ^ (rp r + 149).toNat := by
  unfold Fin32 at h
  unfold hlo
  by_cases hE : r / 8388608 % 256 = 0
  · have e1 : rm r = r % 8388608 := by unfold rm; rw [if_pos hE]
    have e2 : rp r = -149 := by unfold rp; rw [if_pos hE]
    have := M_row single 0 (r % 8388608 - 1) (by rw [s_b]; omega) (.inl rfl)
    rw [Nat.zero_mul, Nat.zero_add] at this
    rw [e1, e2, if_neg (by omega), show ((-149 : Int) + 149).toNat = 0 from rfl, show r % 2147483648 - 1 = r % 8388608 - 1 from by omega, this, Nat.pow_zero]
    omega
  · have e1 : rm r = r % 8388608 + 8388608 := by unfold rm; rw [if_neg hE]
    have e2 : rp r = ((r / 8388608 % 256 : Nat) : Int) - 150 := by unfold rp; rw [if_neg hE]
    rw [e1, e2, show (((r / 8388608 % 256 : Nat) : Int) - 150 + 149).toNat = r / 8388608 % 256 - 1 from by omega]
    by_cases hF : r % 8388608 = 0
    · by_cases hE1 : r / 8388608 % 256 = 1
      · have := M_row single 0 8388607 (by rw [s_b]; omega) (.inl rfl)
        rw [Nat.zero_mul, Nat.zero_add] at this
        rw [if_neg (by omega), show r % 2147483648 - 1 = 8388607 from by omega, this, hE1, hF]
      · have := M_row single (r / 8388608 % 256 - 2) 16777215 (by rw [s_b]; omega) (.inr (by rw [s_b]; omega))
        rw [s_b, show (r / 8388608 % 256 - 2) * 8388608 + 16777215 = r % 2147483648 - 1 from by omega] at this
        rw [if_pos (by omega), this, hF, show r / 8388608 % 256 - 1 = (r / 8388608 % 256 - 2) + 1 from by omega, Nat.pow_succ]
        omega
    · have := M_row single (r / 8388608 % 256 - 1) (r % 8388608 + 8388608 - 1) (by rw [s_b]; omega) (.inr (by rw [s_b]; omega))
      rw [s_b, show (r / 8388608 % 256 - 1) * 8388608 + (r % 8388608 + 8388608 - 1) = r % 2147483648 - 1 from by omega] at this
      obtain ⟨k, hk⟩ : ∃ k, r % 8388608 + 8388608 = k + 1 := ⟨r % 8388608 + 8388607, by omega⟩
      rewrite [if_neg (by omega), this, hk, Nat.add_sub_cancel, ← Nat.mul_assoc]
      congr 1
      omega
theorem rm_pos (r : Nat) (h : 0 < r % 2147483648) : 0 < rm r := by unfold rm; split <;> omega
theorem rm_even (r : Nat) : rm r % 2 = r % 2147483648 % 2 := by unfold rm; split <;> omega

/-- A word nearest to x * 2 ^ P lies between its middles. -/
theorem near_mid (r x A : Nat) (h : Fin32 r) (h0 : 0 < r % 2147483648) (hx : 0 < x) (P : Int) (hr : rungOf single x P = r % 2147483648) (hA : P + 151 = A) :
    (hlo r * 2 ^ (rp r + 149).toNat < x * 2 ^ A ∨ (hlo r * 2 ^ (rp r + 149).toNat = x * 2 ^ A ∧ (rm r % 2 == 0) = true)) ∧
    (x * 2 ^ A < (4 * rm r + 2) * 2 ^ (rp r + 149).toNat ∨ (x * 2 ^ A = (4 * rm r + 2) * 2 ^ (rp r + 149).toNat ∧ (rm r % 2 == 0) = true)) := by
  have hfin : r % 2147483648 < single.infRung := by rw [single_inf]; exact h
  have hev := rm_even r
  have hb : (rm r % 2 == 0) = true ↔ r % 2147483648 % 2 = 0 := by rw [beq_iff_eq]; omega
  rw [hb]
  have h1 := (rungOf_le single (by decide) x hx P (r % 2147483648) hfin).1 (by omega)
  have h2 : ¬ rungOf single x P ≤ r % 2147483648 - 1 := by omega
  rw [rungOf_le single (by decide) x hx P (r % 2147483648 - 1) (by omega)] at h2
  unfold Upto at h1 h2
  have m1 := mid_hi r h
  have m2 := mid_lo r h h0
  rw [s_l] at h1 h2
  generalize M single (r % 2147483648) = a at *
  generalize M single (r % 2147483648 - 1) = b at *
  generalize 2 ^ (rp r + 149).toNat = E at *
  -- P is at least -149 or below: both scales
  by_cases hP : -149 ≤ P
  · rw [show (-149 - P).toNat = 0 from by omega, Nat.pow_zero, Nat.mul_one] at h1 h2
    have e : x * 2 ^ A = 4 * (x * 2 ^ (P - -149).toNat) := by
      rw [show A = (P - -149).toNat + 2 from by omega, Nat.pow_add]
      show x * (2 ^ (P - -149).toNat * 4) = _
      rw [← Nat.mul_assoc, Nat.mul_comm]
    generalize x * 2 ^ (P - -149).toNat = y at *
    have e2 : (4 * rm r + 2) * E = 2 * a := by rw [m1, show 4 * rm r + 2 = 2 * (2 * rm r + 1) from by omega, Nat.mul_assoc]
    rw [e, e2, ← m2]
    omega
  · rw [show (P - -149).toNat = 0 from by omega, Nat.pow_zero, Nat.mul_one] at h1 h2
    have e2 : (4 * rm r + 2) * E = 2 * a := by rw [m1, show 4 * rm r + 2 = 2 * (2 * rm r + 1) from by omega, Nat.mul_assoc]
    rw [e2, ← m2]
    obtain ⟨T, hT⟩ : ∃ T, 2 ^ (-149 - P).toNat = T := ⟨_, rfl⟩
    have hT2 : 2 ^ A * T = 4 := by
      have h3 : A + (-149 - P).toNat = 2 := by omega
      rw [← hT, ← Nat.pow_add, h3]
    have hTp : 0 < T := by rw [← hT]; exact Nat.two_pow_pos _
    rw [hT] at h1 h2
    have eX : x * 2 ^ A * T = 4 * x := by rw [Nat.mul_assoc, hT2, Nat.mul_comm]
    have cmp1 : ∀ c : Nat, (2 * c < x * 2 ^ A ↔ c * T < 2 * x) ∧ (2 * c = x * 2 ^ A ↔ c * T = 2 * x) ∧ (x * 2 ^ A < 2 * c ↔ 2 * x < c * T) ∧ (x * 2 ^ A = 2 * c ↔ 2 * x = c * T) := by
      intro c
      have q1 : 2 * c * T = 2 * (c * T) := by rw [Nat.mul_assoc]
      refine ⟨⟨fun h => ?_, fun h => ?_⟩, ⟨fun h => ?_, fun h => ?_⟩, ⟨fun h => ?_, fun h => ?_⟩, ⟨fun h => ?_, fun h => ?_⟩⟩
      · have := Nat.mul_lt_mul_of_pos_right h hTp; omega
      · exact Nat.lt_of_mul_lt_mul_right (a := T) (by omega)
      · have : 2 * c * T = x * 2 ^ A * T := by rw [h]
        omega
      · exact Nat.eq_of_mul_eq_mul_right hTp (by omega)
      · have := Nat.mul_lt_mul_of_pos_right h hTp; omega
      · exact Nat.lt_of_mul_lt_mul_right (a := T) (by omega)
      · have : x * 2 ^ A * T = 2 * c * T := by rw [h]
        omega
      · exact Nat.eq_of_mul_eq_mul_right hTp (by omega)
    rw [(cmp1 b).1, (cmp1 b).2.1, (cmp1 a).2.2.1, (cmp1 a).2.2.2]
    omega

/-- What 'between' asks, out of the middles. -/
theorem bet (x lo hi K A : Nat) (pw half : Int) (ends : Bool) (hx : x < 4611686018427387904) (hlo : lo < 4611686018427387904) (hhi : hi < 4611686018427387904) (hA : pw + 151 = A) (hK : half + 151 = K) (hA2 : A ≤ 90000) (hK2 : K ≤ 90000)
    (h1 : lo * 2 ^ K < x * 2 ^ A ∨ (lo * 2 ^ K = x * 2 ^ A ∧ ends = true)) (h2 : x * 2 ^ A < hi * 2 ^ K ∨ (x * 2 ^ A = hi * 2 ^ K ∧ ends = true)) (w : World) :
    Calls Try.prog 28 #[.int .u64 (x : Int), .int .i64 pw, .int .u64 (lo : Int), .int .u64 (hi : Int), .int .i64 half, .bool ends] w fun e w' => e = .returned (.bool true) ∧ w = w' := by
  by_cases hup : half ≤ pw
  · obtain ⟨n, hn⟩ : ∃ n : Nat, pw - half = n := Int.eq_ofNat_of_zero_le (by omega)
    have hK0 : 0 < 2 ^ K := Nat.two_pow_pos K
    have e : x * 2 ^ A = x * 2 ^ n * 2 ^ K := by rw [Nat.mul_assoc, ← Nat.pow_add, show n + K = A from by omega]
    rw [e] at h1 h2
    have g1 : lo < x * 2 ^ n ∨ (lo = x * 2 ^ n ∧ ends = true) := by
      rcases h1 with h | ⟨h, g⟩
      · exact .inl (Nat.lt_of_mul_lt_mul_right h)
      · exact .inr ⟨Nat.eq_of_mul_eq_mul_right hK0 h, g⟩
    have g2 : x * 2 ^ n < hi ∨ (x * 2 ^ n = hi ∧ ends = true) := by
      rcases h2 with h | ⟨h, g⟩
      · exact .inl (Nat.lt_of_mul_lt_mul_right h)
      · exact .inr ⟨Nat.eq_of_mul_eq_mul_right hK0 h, g⟩
    have hv : shW x n = x * 2 ^ n := by
      unfold shW
      rw [if_pos (by rcases g2 with h | ⟨h, -⟩ <;> omega)]
    exact between_core (shW x n) lo hi pw half lo hi x ends true n (by omega) (by omega) (by omega) (by omega) (decide_eq_true hup) (by rw [if_pos rfl, hn]; exact IntWalk.i64_in _ (by omega)) rfl rfl rfl (by rw [hv]; exact g1) (by rw [hv]; exact g2) w
  · obtain ⟨n, hn⟩ : ∃ n : Nat, half - pw = n := Int.eq_ofNat_of_zero_le (by omega)
    have hA0 : 0 < 2 ^ A := Nat.two_pow_pos A
    have e : ∀ c : Nat, c * 2 ^ K = c * 2 ^ n * 2 ^ A := fun c => by rw [Nat.mul_assoc, ← Nat.pow_add, show n + A = K from by omega]
    rw [e] at h1 h2
    have g1 : lo * 2 ^ n < x ∨ (lo * 2 ^ n = x ∧ ends = true) := by
      rcases h1 with h | ⟨h, g⟩
      · exact .inl (Nat.lt_of_mul_lt_mul_right h)
      · exact .inr ⟨Nat.eq_of_mul_eq_mul_right hA0 h, g⟩
    have g2 : x < hi * 2 ^ n ∨ (x = hi * 2 ^ n ∧ ends = true) := by
      rcases h2 with h | ⟨h, g⟩
      · exact .inl (Nat.lt_of_mul_lt_mul_right h)
      · exact .inr ⟨Nat.eq_of_mul_eq_mul_right hA0 h, g⟩
    have hv : shW lo n = lo * 2 ^ n := by
      unfold shW
      rw [if_pos (by rcases g1 with h | ⟨h, -⟩ <;> omega)]
    have hh : x < shW hi n ∨ (x = shW hi n ∧ ends = true) := by
      unfold shW
      by_cases hc : hi * 2 ^ n ≤ 4611686018427387904
      · rw [if_pos hc]; exact g2
      · rw [if_neg hc]; exact .inl hx
    exact between_core x (shW lo n) (shW hi n) pw half lo hi x ends false n (by omega) (by omega) (by omega) (by omega) (decide_eq_false hup) (by rw [if_neg Bool.false_ne_true, hn]; exact IntWalk.i64_in _ (by omega)) rfl rfl rfl (by rw [hv]; exact g1) hh w

/-! ### signed, tooGreat -/
def svn (a n : Nat) : Int := if a < 2147483648 then ((rm a * 2 ^ n : Nat) : Int) else -((rm a * 2 ^ n : Nat) : Int)
theorem signed_any' (a n : Nat) (h : a ≤ 4294967295) (hn : n ≤ 38) (w : World) : Calls Try.prog 29 #[.int .u32 (a : Int), .int .i64 (n : Int)] w fun e w' => e = .returned (.int .i64 (svn a n)) ∧ w = w' := by
  have c1 := fun W => read_any a h W
  have hm := rm_lt a
  have hl := bits_low a h
  have hs : svn a n = if a < 2147483648 then ((rm a * 2 ^ n : Nat) : Int) else -((rm a * 2 ^ n : Nat) : Int) := rfl
  obtain ⟨z, hz⟩ : ∃ z, a % 2147483648 = z := ⟨_, rfl⟩
  rw [hz] at hl
  generalize rm a = m at *
  have C1 := Lib.hid c1
  obtain ⟨R, hR⟩ : ∃ R, m * 2 ^ n = R := ⟨_, rfl⟩
  have hRl : R ≤ 4611686018427387904 := by
    have h1 : 2 ^ n ≤ 2 ^ 38 := Nat.pow_le_pow_right (by omega) hn
    have h2 : m * 2 ^ n ≤ 16777216 * 2 ^ 38 := Nat.mul_le_mul (by omega) h1
    omega
  rw [hR] at hs
  have hmin : min n 64 = n := by omega
  have wn : IntKind.u64.wrap (n : Int) = (n : Int) := by rw [IntKind.wrap_u64]; omega
  have e1 : IntKind.u64.wrap ((m : Int) * 2 ^ n) = (R : Int) := by
    rw [show (m : Int) * 2 ^ n = ((m * 2 ^ n : Nat) : Int) from by rw [Int.natCast_mul, Int.natCast_pow]; rfl, hR, IntKind.wrap_u64]; omega
  have e2 : IntKind.i64.wrap (R : Int) = (R : Int) := IntWalk.i64_in _ (by omega)
  have e3 : IntKind.i64.wrap (-(R : Int)) = -(R : Int) := IntWalk.i64_in _ (by omega)
  have e4 : IntKind.i64.wrap (0 - (R : Int)) = -(R : Int) := by rw [IntWalk.i64_in _ (by omega)]; omega
  by_cases ha : a < 2147483648
  · have HS := Lib.hid (show svn a n = (R : Int) from by rw [hs, if_pos ha])
    have hza : z = a := by omega
    have hb : ((a : Int) != (z : Int)) = false := by rw [hza]; simp
    rw [HS.out]
    clear hs c1 hz ha hza hR
    go_enter Try.func29, Try.ntmps29
    go_wp2_with fail
    refine (C1.out _).mono ?_
    rintro e w' ⟨rfl, rfl⟩
    go_wp2
    go_ret
    exact ⟨rfl, rfl⟩
  · have HS := Lib.hid (show svn a n = -(R : Int) from by rw [hs, if_neg ha])
    have hza : ¬ a = z := by omega
    have hb : ((a : Int) != (z : Int)) = true := by rw [bne_iff_ne]; omega
    rw [HS.out]
    clear hs c1 hz ha hR
    go_enter Try.func29, Try.ntmps29
    go_wp2_with fail
    refine (C1.out _).mono ?_
    rintro e w' ⟨rfl, rfl⟩
    go_wp2
    go_ret
    exact ⟨rfl, rfl⟩
end Go.Proofs.Ytllchfdddfmjbaa
