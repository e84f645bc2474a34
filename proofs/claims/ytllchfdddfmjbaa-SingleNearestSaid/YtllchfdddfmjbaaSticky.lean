/- Plain law: a quotient, or a root, cut to enough digits and one that tells whether something is left, rounds as the whole value does. -/
import Derived.Test.YtllchfdddfmjbaaNum
namespace Go.Proofs.Ytllchfdddfmjbaa
open Ieee

/-- The value X / Y * 2 ^ P is below the middle above rung r, or upon it where r is even. -/
def UptoQ (f : Format) (X Y : Nat) (P : Int) (r : Nat) : Prop :=
  2 * (X * 2 ^ (P - f.leastPlace).toNat) < M f r * (Y * 2 ^ (f.leastPlace - P).toNat) ∨
    (2 * (X * 2 ^ (P - f.leastPlace).toNat) = M f r * (Y * 2 ^ (f.leastPlace - P).toNat) ∧ r % 2 = 0)

theorem quot_lt {X Y q z c : Nat} (hY : 0 < Y) (hq : X / Y = q) (hz : z = if X % Y = 0 then 0 else 1) : 2 * q + z < 2 * c ↔ X < c * Y := by
  have h1 := Nat.div_add_mod X Y
  have h2 := Nat.mod_lt X hY
  rw [hq] at h1
  have h3 : z ≤ 1 := by rw [hz]; split <;> omega
  constructor
  · intro h
    obtain ⟨t, rfl⟩ : ∃ t, c = q + 1 + t := ⟨c - q - 1, by omega⟩
    have : (q + 1 + t) * Y = Y * q + Y + t * Y := by rw [Nat.add_mul, Nat.add_mul, Nat.one_mul, Nat.mul_comm q]
    omega
  · intro h
    refine Nat.lt_of_not_le fun hc => ?_
    have hcq : c ≤ q := by omega
    have : c * Y ≤ Y * q := by rw [Nat.mul_comm]; exact Nat.mul_le_mul_left _ hcq
    omega

theorem quot_eq {X Y q z c : Nat} (hY : 0 < Y) (hq : X / Y = q) (hz : z = if X % Y = 0 then 0 else 1) : 2 * q + z = 2 * c ↔ X = c * Y := by
  have h1 := Nat.div_add_mod X Y
  rw [hq] at h1
  constructor
  · intro h
    have h0 : X % Y = 0 := by
      rcases Nat.eq_zero_or_pos (X % Y) with h0 | h0
      · exact h0
      · rw [if_neg (by omega)] at hz; omega
    rw [if_pos h0] at hz
    obtain rfl : q = c := by omega
    rw [Nat.mul_comm]; omega
  · intro h
    have h0 : X % Y = 0 := by rw [h]; exact Nat.mul_mod_left _ _
    rw [if_pos h0] at hz
    have : q = c := by rw [← hq, h]; exact Nat.mul_div_cancel _ hY
    omega

/-- The same at every scale. -/
theorem scale2_lt {A B : Nat} (g : Nat) : A * 2 ^ g < B * 2 ^ g ↔ A < B :=
  ⟨fun h => Nat.lt_of_mul_lt_mul_right h, fun h => Nat.mul_lt_mul_of_pos_right h (Nat.two_pow_pos g)⟩
theorem scale2_eq {A B : Nat} (g : Nat) : A * 2 ^ g = B * 2 ^ g ↔ A = B :=
  ⟨fun h => Nat.eq_of_mul_eq_mul_right (Nat.two_pow_pos g) h, fun h => by rw [h]⟩

/-- A QUOTIENT, CUT, WITH A DIGIT THAT SAYS WHETHER SOMETHING IS LEFT. -/
theorem sticky (f : Format) (hf : 1 ≤ f.fractionBits) (X Y q z : Nat) (P : Int) (hY : 0 < Y) (hq : X / Y = q) (hz : z = if X % Y = 0 then 0 else 1)
    (hbig : 2 ^ (f.fractionBits + 1) ≤ q) (r : Nat) (hr : r < f.infRung) : rungOf f (2 * q + z) (P - 1) ≤ r ↔ UptoQ f X Y P r := by
  have hqp : 0 < q := Nat.lt_of_lt_of_le (Nat.two_pow_pos _) hbig
  rw [rungOf_le f hf _ (by omega) _ r hr]
  obtain ⟨e, k, hrow, hk, hek⟩ := row_of f r
  have hM : M f r = (2 * k + 1) * 2 ^ e := by rw [hrow]; exact M_row f e k hk hek
  have hb2 : 2 * f.binade = 2 ^ (f.fractionBits + 1) := by show 2 * 2 ^ f.fractionBits = _; rw [Nat.pow_succ]; omega
  unfold Upto UptoQ
  rw [hM]
  generalize f.leastPlace = L
  have hX : q * Y ≤ X := by rw [← hq]; exact Nat.div_mul_le_self X Y
  clear hrow hM
  -- the scale of both sides
  by_cases hE : (e : Int) - (P - 1 - L) ≥ 2
  · -- the middle is a whole number of units
    obtain ⟨u, hu1⟩ : ∃ u : Nat, (P - 1 - L).toNat + u + 2 = e + (L - (P - 1)).toNat := ⟨e + (L - (P - 1)).toNat - 2 - (P - 1 - L).toNat, by omega⟩
    -- units: 2 ^ (P - 1 - L).toNat on the left
    have l1 : 2 * ((2 * q + z) * 2 ^ (P - 1 - L).toNat) = (2 * q + z) * 2 ^ ((P - 1 - L).toNat + 1) := by rw [Nat.pow_succ]; ac_rfl
    have l2 : (2 * k + 1) * 2 ^ e * 2 ^ (L - (P - 1)).toNat = 2 * ((2 * k + 1) * 2 ^ u) * 2 ^ ((P - 1 - L).toNat + 1) := by
      rw [Nat.mul_assoc, ← Nat.pow_add, show e + (L - (P - 1)).toNat = 1 + u + ((P - 1 - L).toNat + 1) from by omega, Nat.pow_add, Nat.pow_add, Nat.pow_one]
      ac_rfl
    rw [l1, l2, scale2_lt, scale2_eq, quot_lt hY hq hz, quot_eq hY hq hz]
    obtain ⟨G, hG⟩ : ∃ G : Nat, G = (P - L).toNat + 1 := ⟨_, rfl⟩
    have r1 : 2 * (X * 2 ^ (P - L).toNat) = X * 2 ^ G := by rw [hG, Nat.pow_succ]; ac_rfl
    have r2 : (2 * k + 1) * 2 ^ e * (Y * 2 ^ (L - P).toNat) = (2 * k + 1) * 2 ^ u * Y * 2 ^ G := by
      have : (2 * k + 1) * 2 ^ e * (Y * 2 ^ (L - P).toNat) = (2 * k + 1) * Y * (2 ^ e * 2 ^ (L - P).toNat) := by ac_rfl
      rw [this, ← Nat.pow_add, show e + (L - P).toNat = u + G from by omega, Nat.pow_add]
      ac_rfl
    rw [r1, r2, scale2_lt, scale2_eq]
  · -- the middle lies far below
    have hk1 : 2 * k + 1 < 2 * 2 ^ (f.fractionBits + 1) := by omega
    have hA : (2 * k + 1) * 2 ^ e * 2 ^ (L - (P - 1)).toNat < 2 * ((2 * q + z) * 2 ^ (P - 1 - L).toNat) := by
      have h1 : (2 * k + 1) * 2 ^ e * 2 ^ (L - (P - 1)).toNat = (2 * k + 1) * 2 ^ (e + (L - (P - 1)).toNat) := by rw [Nat.mul_assoc, ← Nat.pow_add]
      have h2 : 2 ^ (e + (L - (P - 1)).toNat) ≤ 2 ^ ((P - 1 - L).toNat + 1) := Nat.pow_le_pow_right (by omega) (by omega)
      have h3 : (2 * k + 1) * 2 ^ (e + (L - (P - 1)).toNat) ≤ (2 * k + 1) * 2 ^ ((P - 1 - L).toNat + 1) := Nat.mul_le_mul_left _ h2
      have h4 : (2 * k + 1) * 2 ^ ((P - 1 - L).toNat + 1) < 2 * q * 2 ^ ((P - 1 - L).toNat + 1) := Nat.mul_lt_mul_of_pos_right (by omega) (Nat.two_pow_pos _)
      have h5 : 2 * q * 2 ^ ((P - 1 - L).toNat + 1) ≤ (2 * q + z) * 2 ^ ((P - 1 - L).toNat + 1) := Nat.mul_le_mul_right _ (by omega)
      have h6 : 2 * ((2 * q + z) * 2 ^ (P - 1 - L).toNat) = (2 * q + z) * 2 ^ ((P - 1 - L).toNat + 1) := by rw [Nat.pow_succ]; ac_rfl
      omega
    have hB : (2 * k + 1) * 2 ^ e * (Y * 2 ^ (L - P).toNat) < 2 * (X * 2 ^ (P - L).toNat) := by
      have h1 : (2 * k + 1) * 2 ^ e * (Y * 2 ^ (L - P).toNat) = (2 * k + 1) * Y * 2 ^ (e + (L - P).toNat) := by
        rw [Nat.pow_add]; ac_rfl
      have h2 : 2 ^ (e + (L - P).toNat) ≤ 2 ^ (P - L).toNat := Nat.pow_le_pow_right (by omega) (by omega)
      have h3 : (2 * k + 1) * Y * 2 ^ (e + (L - P).toNat) ≤ (2 * k + 1) * Y * 2 ^ (P - L).toNat := Nat.mul_le_mul_left _ h2
      have h4 : (2 * k + 1) * Y < 2 * q * Y := Nat.mul_lt_mul_of_pos_right (by omega) hY
      have h5 : (2 * k + 1) * Y * 2 ^ (P - L).toNat < 2 * q * Y * 2 ^ (P - L).toNat := Nat.mul_lt_mul_of_pos_right h4 (Nat.two_pow_pos _)
      have h6 : 2 * q * Y * 2 ^ (P - L).toNat ≤ 2 * (X * 2 ^ (P - L).toNat) := by
        rw [Nat.mul_assoc 2 q Y, Nat.mul_assoc]
        exact Nat.mul_le_mul_left _ (Nat.mul_le_mul_right _ hX)
      omega
    constructor
    · intro h; omega
    · intro h; omega

/-- More digits change nothing. -/
theorem uptoQ_scale (f : Format) (X Y : Nat) (P : Int) (r k : Nat) : UptoQ f (X * 2 ^ k) Y (P - k) r ↔ UptoQ f X Y P r := by
  unfold UptoQ
  generalize f.leastPlace = L
  have hs : (P - k - L).toNat + k + (L - P).toNat = (P - L).toNat + (L - (P - k)).toNat := by omega
  -- both sides times a power of two
  have e1 : 2 * (X * 2 ^ k * 2 ^ (P - k - L).toNat) * 2 ^ (L - P).toNat = 2 * (X * 2 ^ (P - L).toNat) * 2 ^ (L - (P - k)).toNat := by
    have a1 : 2 * (X * 2 ^ k * 2 ^ (P - k - L).toNat) * 2 ^ (L - P).toNat = 2 * X * (2 ^ (P - k - L).toNat * 2 ^ k * 2 ^ (L - P).toNat) := by ac_rfl
    have a2 : 2 * (X * 2 ^ (P - L).toNat) * 2 ^ (L - (P - k)).toNat = 2 * X * (2 ^ (P - L).toNat * 2 ^ (L - (P - k)).toNat) := by simp only [Nat.mul_assoc]
    rw [a1, a2, ← Nat.pow_add, ← Nat.pow_add, ← Nat.pow_add, hs]
  have e2 : M f r * (Y * 2 ^ (L - (P - k)).toNat) * 2 ^ (L - P).toNat = M f r * (Y * 2 ^ (L - P).toNat) * 2 ^ (L - (P - k)).toNat := by ac_rfl
  rw [← scale2_lt (A := 2 * (X * 2 ^ k * 2 ^ (P - k - L).toNat)) (L - P).toNat, ← scale2_eq (A := 2 * (X * 2 ^ k * 2 ^ (P - k - L).toNat)) (L - P).toNat, e1, e2, scale2_lt, scale2_eq]

/-- Two cuts of one quotient, each to enough digits, round alike. -/
theorem sticky_same (f : Format) (hf : 1 ≤ f.fractionBits) (m n : Nat) (p : Int) (hn : 0 < n) (k l : Nat)
    (hk : 2 ^ (f.fractionBits + 1) ≤ m * 2 ^ k / n) (hl : 2 ^ (f.fractionBits + 1) ≤ m * 2 ^ l / n) :
    rungOf f (2 * (m * 2 ^ k / n) + if m * 2 ^ k % n = 0 then 0 else 1) (p - k - 1) = rungOf f (2 * (m * 2 ^ l / n) + if m * 2 ^ l % n = 0 then 0 else 1) (p - l - 1) := by
  refine rung_unique (rungOf_le_inf _ _ _) (rungOf_le_inf _ _ _) fun r hr => ?_
  rw [sticky f hf (m * 2 ^ k) n _ _ (p - k) hn rfl rfl hk r hr, sticky f hf (m * 2 ^ l) n _ _ (p - l) hn rfl rfl hl r hr, uptoQ_scale, uptoQ_scale]

/-- A nought at the end changes nothing. -/
theorem rungOf_double (f : Format) (hf : 1 ≤ f.fractionBits) (n : Nat) (p : Int) : rungOf f (2 * n) (p - 1) = rungOf f n p := by
  by_cases h0 : n = 0
  · subst h0; rfl
  · refine rung_unique (rungOf_le_inf _ _ _) (rungOf_le_inf _ _ _) fun r hr => ?_
    rw [rungOf_le f hf _ (by omega) _ r hr, rungOf_le f hf _ (by omega) _ r hr]
    have h := uptoQ_scale f n 1 p r 1
    unfold UptoQ at h
    unfold Upto
    simp only [Nat.one_mul, Nat.pow_one, Nat.mul_comm n 2] at h
    exact h
end Go.Proofs.Ytllchfdddfmjbaa
