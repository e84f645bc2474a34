/- Plain laws of SingleNearest: quotients and roots. -/
import Derived.Test.YtllchfdddfmjbaaNear4
import Derived.Test.YtllchfdddfmjbaaKeepsP
namespace Go.Proofs.Ytllchfdddfmjbaa
open Go.RowKit Ieee
set_option linter.unusedVariables false

theorem read_rm (a : Nat) (h : Fin32 a) : single.read a = .number (a / 2147483648 % 2 == 1) (rm a) (rp a) := by
  unfold Fin32 at h
  unfold Format.read rm rp
  rw [single_sign, s_b, single_inf, s_l]
  simp only
  by_cases h0 : a / 8388608 % 256 = 0
  · rw [if_pos (by omega), if_pos h0, if_pos h0, show a % 2147483648 = a % 8388608 from by omega]
  · rw [if_neg (by omega), if_pos h, if_neg h0, if_neg h0, show a % 2147483648 % 8388608 = a % 8388608 from by omega, show (-149 : Int) + ((a % 2147483648 / 8388608 - 1 : Nat) : Int) = ((a / 8388608 % 256 : Nat) : Int) - 150 from by omega, Nat.add_comm]

theorem big_quot (m n k : Nat) (hm : 0 < m) (hn : 0 < n) (hk : 25 + n.log2 ≤ m.log2 + k) : 2 ^ 24 ≤ m * 2 ^ k / n := by
  rw [Nat.le_div_iff_mul_le hn]
  have h1 : 2 ^ m.log2 ≤ m := Nat.log2_self_le (by omega)
  have h2 : n < 2 ^ (n.log2 + 1) := Nat.lt_log2_self
  have h3 : 2 ^ 24 * n ≤ 2 ^ 24 * 2 ^ (n.log2 + 1) := Nat.mul_le_mul_left _ (by omega)
  have h4 : 2 ^ (25 + n.log2) ≤ 2 ^ (m.log2 + k) := Nat.pow_le_pow_right (by omega) hk
  have h5 : 2 ^ m.log2 * 2 ^ k ≤ m * 2 ^ k := Nat.mul_le_mul_right _ h1
  rw [← Nat.pow_add] at h3 h5
  rw [show 24 + (n.log2 + 1) = 25 + n.log2 from by omega] at h3
  omega

theorem ratio_rung (a b Q : Nat) (fa : Fin32 a) (fb : Fin32 b) (hy : 0 < rm b) (hQ : ratioW a b = Q) (h0 : 0 < Q % 2147483648) :
    0 < rm a ∧ (∀ r, r < 2139095040 → (Q % 2147483648 ≤ r ↔ UptoQ single (rm a) (rm b) (rp a - rp b) r)) ∧ (Q / 2147483648 % 2 == 1) = ((a / 2147483648 % 2 == 1) ^^ (b / 2147483648 % 2 == 1)) := by
  have hs : ∀ r, r ≤ 2139095040 → r < single.signWeight := fun r h => by rw [single_sign]; omega
  unfold ratioW Format.div at hQ
  rw [read_rm a fa, read_rm b fb] at hQ
  generalize (a / 2147483648 % 2 == 1) = s at *
  generalize (b / 2147483648 % 2 == 1) = t at *
  generalize rm a = m at *
  generalize rm b = n at *
  generalize rp a = i at *
  generalize rp b = j at *
  have hq : Datum.quotient (single.fractionBits + 2) (.number s m i) (.number t n j) = some (.number (s ^^ t) (2 * (m <<< (25 + n.log2 - m.log2) / n) + (m <<< (25 + n.log2 - m.log2) % n != 0).toNat) (i - j - ((25 + n.log2 - m.log2 : Nat) : Int) - 1)) := by
    simp only [Datum.quotient]
    rw [if_neg (by omega)]
    rfl
  rw [hq, Option.map_some, Option.getD_some] at hQ
  generalize hmore : 25 + n.log2 - m.log2 = more at *
  rw [Nat.shiftLeft_eq] at hQ
  have hQ' : single.word (s ^^ t) (rungOf single (2 * (m * 2 ^ more / n) + (m * 2 ^ more % n != 0).toNat) (i - j - (more : Int) - 1)) = Q := by
    rw [← nearest_eq]; exact hQ
  have hinf := rung_inf (2 * (m * 2 ^ more / n) + (m * 2 ^ more % n != 0).toNat) (i - j - (more : Int) - 1)
  have e1 := word_mod single (s ^^ t) _ (hs _ hinf)
  have e2 := word_div single (s ^^ t) _ (hs _ hinf)
  rw [hQ', single_sign] at e1 e2
  have hm : 0 < m := by
    refine Nat.pos_of_ne_zero fun hz => ?_
    rw [hz, Nat.zero_mul, Nat.zero_div, Nat.zero_mod] at e1
    rw [show rungOf single (2 * 0 + ((0 : Nat) != 0).toNat) (i - j - (more : Int) - 1) = 0 from rfl] at e1
    omega
  refine ⟨hm, fun r hr => ?_, e2⟩
  rw [e1]
  have ez : (m * 2 ^ more % n != 0).toNat = if m * 2 ^ more % n = 0 then 0 else 1 := by
    by_cases hz : m * 2 ^ more % n = 0
    · rw [if_pos hz, hz]; rfl
    · rw [if_neg hz, show (m * 2 ^ more % n != 0) = true from by rw [bne_iff_ne]; exact hz]; rfl
  rw [sticky single (by decide) (m * 2 ^ more) n (m * 2 ^ more / n) _ (i - j - more) hy rfl ez (big_quot m n more hm hy (by omega)) r (by rw [single_inf]; exact hr)]
  exact uptoQ_scale single m n (i - j) r more

/-- A quotient lies between its middles. -/
theorem ratio_mid (a b Q : Nat) (fa : Fin32 a) (fb : Fin32 b) (hy : 0 < rm b) (hQ : ratioW a b = Q) (fQ : Fin32 Q) (h0 : 0 < Q % 2147483648) (w : World) :
    Calls Try.prog 28 #[.int .u64 (rm a : Int), .int .i64 (rp a - rp b), .int .u64 ((hlo Q * rm b : Nat) : Int), .int .u64 (((4 * rm Q + 2) * rm b : Nat) : Int), .int .i64 (rp Q - 2), .bool (rm Q % 2 == 0)] w fun e w' => e = .returned (.bool true) ∧ w = w' := by
  obtain ⟨hm, hr, -⟩ := ratio_rung a b Q fa fb hy hQ h0
  have pa := rp_fin a fa
  have pb := rp_fin b fb
  have pQ := rp_fin Q fQ
  have la := rm_lt a
  have lb := rm_lt b
  have lQ := rm_lt Q
  have hl : hlo Q ≤ 4 * rm Q := by unfold hlo; split <;> omega
  have b1 : hlo Q * rm b ≤ 67108860 * 16777215 := Nat.mul_le_mul (by omega) (by omega)
  have b2 : (4 * rm Q + 2) * rm b ≤ 67108862 * 16777215 := Nat.mul_le_mul (by omega) (by omega)
  obtain ⟨A, hA⟩ : ∃ A : Nat, rp a - rp b + 151 + (200 : Nat) = A := Int.eq_ofNat_of_zero_le (by omega)
  have u1 := (hr (Q % 2147483648) fQ).1 (by omega)
  have u2 : ¬ UptoQ single (rm a) (rm b) (rp a - rp b) (Q % 2147483648 - 1) := fun hc => by
    have := (hr (Q % 2147483648 - 1) (by unfold Fin32 at fQ; omega)).2 hc
    omega
  unfold UptoQ at u1 u2
  rw [s_l] at u1 u2
  have g := mid_core Q (rm a) (rm b) A 200 (2 ^ (rp a - rp b - -149).toNat) (2 ^ (-149 - (rp a - rp b)).toNat) fQ h0 (Nat.two_pow_pos _) (scales _ 200 A hA) u1 u2
  exact bet' (rm a) (hlo Q * rm b) ((4 * rm Q + 2) * rm b) ((rp Q + 149).toNat + 200) A 351 (rp a - rp b) (rp Q - 2) _ (by omega) (by omega) (by omega) (by omega) (by omega) (by omega) (by omega) (by omega) g.1 g.2 w
end Go.Proofs.Ytllchfdddfmjbaa
