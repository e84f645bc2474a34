/- Plain law: the square root of binary32, through binary64 and back: two roundings do no harm. -/
import Derived.Test.YtllchfdddfmjbaaExact
import Derived.Test.YtllchfdddfmjbaaSticky
namespace Go.Proofs.Ytllchfdddfmjbaa
open Ieee

theorem sqrt_lt {X q z c : Nat} (h1 : q * q ≤ X) (h2 : X < (q + 1) * (q + 1)) (hz : z = if q * q = X then 0 else 1) : 2 * q + z < 2 * c ↔ X < c * c := by
  have h3 : z ≤ 1 := by rw [hz]; split <;> omega
  constructor
  · intro h
    have : (q + 1) * (q + 1) ≤ c * c := Nat.mul_le_mul (by omega) (by omega)
    omega
  · intro h
    refine Nat.lt_of_not_le fun hc => ?_
    have : c * c ≤ q * q := Nat.mul_le_mul (by omega) (by omega)
    omega
theorem sqrt_eq {X q z c : Nat} (h1 : q * q ≤ X) (h2 : X < (q + 1) * (q + 1)) (hz : z = if q * q = X then 0 else 1) : 2 * q + z = 2 * c ↔ X = c * c := by
  constructor
  · intro h
    by_cases h0 : q * q = X
    · rw [if_pos h0] at hz
      obtain rfl : q = c := by omega
      exact h0.symm
    · rw [if_neg h0] at hz; omega
  · intro h
    have h4 : q ≤ c := Nat.le_of_not_lt fun hc => by
      have : (c + 1) * (c + 1) ≤ q * q := Nat.mul_le_mul hc hc
      have : c * c < (c + 1) * (c + 1) := Nat.mul_lt_mul'' (by omega) (by omega)
      omega
    have h5 : c ≤ q := Nat.le_of_not_lt fun hc => by
      have : (q + 1) * (q + 1) ≤ c * c := Nat.mul_le_mul hc hc
      omega
    obtain rfl : q = c := by omega
    rw [if_pos h.symm] at hz
    omega

/-- The root of m * 2 ^ i is below the middle above rung r, or upon it where r is even. -/
def UptoS (f : Format) (m : Nat) (i : Int) (r : Nat) : Prop :=
  4 * (m * 2 ^ (i - 2 * f.leastPlace).toNat) < M f r * M f r * 2 ^ (2 * f.leastPlace - i).toNat ∨
    (4 * (m * 2 ^ (i - 2 * f.leastPlace).toNat) = M f r * M f r * 2 ^ (2 * f.leastPlace - i).toNat ∧ r % 2 = 0)

theorem uptoS_scale (f : Format) (m : Nat) (i : Int) (r k : Nat) : UptoS f (m * 2 ^ k) (i - k) r ↔ UptoS f m i r := by
  unfold UptoS
  generalize 2 * f.leastPlace = L
  generalize M f r * M f r = c
  have hs : (i - k - L).toNat + k + (L - i).toNat = (i - L).toNat + (L - (i - k)).toNat := by omega
  have e1 : 4 * (m * 2 ^ k * 2 ^ (i - k - L).toNat) * 2 ^ (L - i).toNat = 4 * (m * 2 ^ (i - L).toNat) * 2 ^ (L - (i - k)).toNat := by
    have a1 : 4 * (m * 2 ^ k * 2 ^ (i - k - L).toNat) * 2 ^ (L - i).toNat = 4 * m * (2 ^ (i - k - L).toNat * 2 ^ k * 2 ^ (L - i).toNat) := by ac_rfl
    have a2 : 4 * (m * 2 ^ (i - L).toNat) * 2 ^ (L - (i - k)).toNat = 4 * m * (2 ^ (i - L).toNat * 2 ^ (L - (i - k)).toNat) := by ac_rfl
    rw [a1, a2, ← Nat.pow_add, ← Nat.pow_add, ← Nat.pow_add, hs]
  have e2 : c * 2 ^ (L - (i - k)).toNat * 2 ^ (L - i).toNat = c * 2 ^ (L - i).toNat * 2 ^ (L - (i - k)).toNat := by ac_rfl
  rw [← scale2_lt (A := 4 * (m * 2 ^ k * 2 ^ (i - k - L).toNat)) (L - i).toNat, ← scale2_eq (A := 4 * (m * 2 ^ k * 2 ^ (i - k - L).toNat)) (L - i).toNat, e1, e2, scale2_lt, scale2_eq]

/-- The same value, the same root. -/
theorem uptoS_same (f : Format) (m n : Nat) (i j : Int) (r : Nat) (h : m * 2 ^ (i - j).toNat = n * 2 ^ (j - i).toNat) : UptoS f m i r ↔ UptoS f n j r := by
  by_cases hij : j ≤ i
  · rw [show (j - i).toNat = 0 from by omega, Nat.pow_zero, Nat.mul_one] at h
    have := uptoS_scale f m i r (i - j).toNat
    rw [h, show i - ((i - j).toNat : Int) = j from by omega] at this
    exact this.symm
  · rw [show (i - j).toNat = 0 from by omega, Nat.pow_zero, Nat.mul_one] at h
    have := uptoS_scale f n j r (j - i).toNat
    rw [← h, show j - ((j - i).toNat : Int) = i from by omega] at this
    exact this

theorem stickyR (f : Format) (hf : 1 ≤ f.fractionBits) (X q z : Nat) (P : Int) (h1 : q * q ≤ X) (h2 : X < (q + 1) * (q + 1)) (hz : z = if q * q = X then 0 else 1)
    (hbig : 2 ^ (f.fractionBits + 1) ≤ q) (r : Nat) (hr : r < f.infRung) : rungOf f (2 * q + z) (P - 1) ≤ r ↔ UptoS f X (2 * P) r := by
  have hqp : 0 < q := Nat.lt_of_lt_of_le (Nat.two_pow_pos _) hbig
  rw [rungOf_le f hf _ (by omega) _ r hr]
  obtain ⟨e, k, hrow, hk, hek⟩ := row_of f r
  have hM : M f r = (2 * k + 1) * 2 ^ e := by rw [hrow]; exact M_row f e k hk hek
  have hb2 : 2 * f.binade = 2 ^ (f.fractionBits + 1) := by show 2 * 2 ^ f.fractionBits = _; rw [Nat.pow_succ]; omega
  unfold Upto UptoS
  rw [hM]
  generalize f.leastPlace = L
  have eA : 2 ^ (2 * P - 2 * L).toNat = 2 ^ (P - L).toNat * 2 ^ (P - L).toNat := by rw [← Nat.pow_add]; congr 1; omega
  have eD : 2 ^ (2 * L - 2 * P).toNat = 2 ^ (L - P).toNat * 2 ^ (L - P).toNat := by rw [← Nat.pow_add]; congr 1; omega
  rw [eA, eD]
  clear hrow hM eA eD
  by_cases hE : (e : Int) - (P - 1 - L) ≥ 2
  · obtain ⟨u, hu1⟩ : ∃ u : Nat, (P - 1 - L).toNat + u + 2 = e + (L - (P - 1)).toNat := ⟨e + (L - (P - 1)).toNat - 2 - (P - 1 - L).toNat, by omega⟩
    have l1 : 2 * ((2 * q + z) * 2 ^ (P - 1 - L).toNat) = (2 * q + z) * 2 ^ ((P - 1 - L).toNat + 1) := by rw [Nat.pow_succ]; ac_rfl
    have l2 : (2 * k + 1) * 2 ^ e * 2 ^ (L - (P - 1)).toNat = 2 * ((2 * k + 1) * 2 ^ u) * 2 ^ ((P - 1 - L).toNat + 1) := by
      rw [Nat.mul_assoc, ← Nat.pow_add, show e + (L - (P - 1)).toNat = 1 + u + ((P - 1 - L).toNat + 1) from by omega, Nat.pow_add, Nat.pow_add, Nat.pow_one]
      ac_rfl
    rw [l1, l2, scale2_lt, scale2_eq, sqrt_lt h1 h2 hz, sqrt_eq h1 h2 hz]
    obtain ⟨G, hG⟩ : ∃ G : Nat, G = (P - L).toNat + 1 := ⟨_, rfl⟩
    have r1 : 4 * (X * (2 ^ (P - L).toNat * 2 ^ (P - L).toNat)) = X * 2 ^ (G + G) := by
      rw [hG, show (P - L).toNat + 1 + ((P - L).toNat + 1) = 2 + ((P - L).toNat + (P - L).toNat) from by omega, Nat.pow_add 2 2, Nat.pow_add 2 (P - L).toNat]
      show _ = X * (4 * _)
      ac_rfl
    have r2 : (2 * k + 1) * 2 ^ e * ((2 * k + 1) * 2 ^ e) * (2 ^ (L - P).toNat * 2 ^ (L - P).toNat) = (2 * k + 1) * 2 ^ u * ((2 * k + 1) * 2 ^ u) * 2 ^ (G + G) := by
      have a1 : (2 * k + 1) * 2 ^ e * ((2 * k + 1) * 2 ^ e) * (2 ^ (L - P).toNat * 2 ^ (L - P).toNat) = (2 * k + 1) * (2 * k + 1) * ((2 ^ e * 2 ^ (L - P).toNat) * (2 ^ e * 2 ^ (L - P).toNat)) := by ac_rfl
      have a2 : (2 * k + 1) * 2 ^ u * ((2 * k + 1) * 2 ^ u) * 2 ^ (G + G) = (2 * k + 1) * (2 * k + 1) * ((2 ^ u * 2 ^ G) * (2 ^ u * 2 ^ G)) := by rw [Nat.pow_add]; ac_rfl
      rw [a1, a2, ← Nat.pow_add, ← Nat.pow_add 2 u G, show e + (L - P).toNat = u + G from by omega]
    rw [r1, r2, scale2_lt, scale2_eq]
  · have hk1 : 2 * k + 1 < 2 * 2 ^ (f.fractionBits + 1) := by omega
    have hA : (2 * k + 1) * 2 ^ e * 2 ^ (L - (P - 1)).toNat < 2 * ((2 * q + z) * 2 ^ (P - 1 - L).toNat) := by
      have h1 : (2 * k + 1) * 2 ^ e * 2 ^ (L - (P - 1)).toNat = (2 * k + 1) * 2 ^ (e + (L - (P - 1)).toNat) := by rw [Nat.mul_assoc, ← Nat.pow_add]
      have h2 : 2 ^ (e + (L - (P - 1)).toNat) ≤ 2 ^ ((P - 1 - L).toNat + 1) := Nat.pow_le_pow_right (by omega) (by omega)
      have h3 : (2 * k + 1) * 2 ^ (e + (L - (P - 1)).toNat) ≤ (2 * k + 1) * 2 ^ ((P - 1 - L).toNat + 1) := Nat.mul_le_mul_left _ h2
      have h4 : (2 * k + 1) * 2 ^ ((P - 1 - L).toNat + 1) < 2 * q * 2 ^ ((P - 1 - L).toNat + 1) := Nat.mul_lt_mul_of_pos_right (by omega) (Nat.two_pow_pos _)
      have h5 : 2 * q * 2 ^ ((P - 1 - L).toNat + 1) ≤ (2 * q + z) * 2 ^ ((P - 1 - L).toNat + 1) := Nat.mul_le_mul_right _ (by omega)
      have h6 : 2 * ((2 * q + z) * 2 ^ (P - 1 - L).toNat) = (2 * q + z) * 2 ^ ((P - 1 - L).toNat + 1) := by rw [Nat.pow_succ]; ac_rfl
      omega
    have hB : (2 * k + 1) * 2 ^ e * ((2 * k + 1) * 2 ^ e) * (2 ^ (L - P).toNat * 2 ^ (L - P).toNat) < 4 * (X * (2 ^ (P - L).toNat * 2 ^ (P - L).toNat)) := by
      have h3 : (2 * k + 1) * 2 ^ (e + (L - P).toNat) ≤ (2 * k + 1) * 2 ^ (P - L).toNat := Nat.mul_le_mul_left _ (Nat.pow_le_pow_right (by omega) (by omega))
      have h4 : (2 * k + 1) * 2 ^ (P - L).toNat < 2 * q * 2 ^ (P - L).toNat := Nat.mul_lt_mul_of_pos_right (by omega) (Nat.two_pow_pos _)
      have h5 : (2 * k + 1) * 2 ^ (e + (L - P).toNat) < 2 * q * 2 ^ (P - L).toNat := by omega
      have h6 : (2 * k + 1) * 2 ^ e * ((2 * k + 1) * 2 ^ e) * (2 ^ (L - P).toNat * 2 ^ (L - P).toNat) = (2 * k + 1) * 2 ^ (e + (L - P).toNat) * ((2 * k + 1) * 2 ^ (e + (L - P).toNat)) := by rw [Nat.pow_add]; ac_rfl
      have h7 : 2 * q * 2 ^ (P - L).toNat * (2 * q * 2 ^ (P - L).toNat) = 4 * (q * q * (2 ^ (P - L).toNat * 2 ^ (P - L).toNat)) := by
        show _ = (2 * 2) * _
        ac_rfl
      have h8 : 4 * (q * q * (2 ^ (P - L).toNat * 2 ^ (P - L).toNat)) ≤ 4 * (X * (2 ^ (P - L).toNat * 2 ^ (P - L).toNat)) := Nat.mul_le_mul_left _ (Nat.mul_le_mul_right _ (by omega))
      rw [h6]
      refine Nat.lt_of_lt_of_le (Nat.mul_lt_mul'' h5 h5) ?_
      rw [h7]
      exact h8
    constructor
    · intro h; omega
    · intro h; omega

theorem rootFrom_spec (n : Nat) : ∀ (todo root : Nat), root * root ≤ n → n < (root + 2 ^ todo) * (root + 2 ^ todo) → Datum.rootFrom n todo root * Datum.rootFrom n todo root ≤ n ∧ n < (Datum.rootFrom n todo root + 1) * (Datum.rootFrom n todo root + 1) := by
  intro todo
  induction todo with
  | zero => intro root h1 h2; exact ⟨h1, h2⟩
  | succ t ih =>
    intro root h1 h2
    unfold Datum.rootFrom
    simp only [Nat.one_shiftLeft]
    by_cases h : (root + 2 ^ t) * (root + 2 ^ t) ≤ n
    · rw [if_pos h]
      refine ih _ h ?_
      rw [Nat.add_assoc, show 2 ^ t + 2 ^ t = 2 ^ (t + 1) from by rw [Nat.pow_succ]; omega]
      exact h2
    · rw [if_neg h]
      exact ih _ h1 (by omega)

theorem rootFrom_is (n : Nat) : Datum.rootFrom n (n.log2 / 2 + 1) 0 * Datum.rootFrom n (n.log2 / 2 + 1) 0 ≤ n ∧ n < (Datum.rootFrom n (n.log2 / 2 + 1) 0 + 1) * (Datum.rootFrom n (n.log2 / 2 + 1) 0 + 1) := by
  refine rootFrom_spec n _ 0 (by omega) ?_
  rw [Nat.zero_add, ← Nat.pow_add]
  have h1 : n < 2 ^ (n.log2 + 1) := Nat.lt_log2_self
  have h2 : 2 ^ (n.log2 + 1) ≤ 2 ^ (n.log2 / 2 + 1 + (n.log2 / 2 + 1)) := Nat.pow_le_pow_right (by omega) (by omega)
  omega

/-- The root of a number, rounded: told by midpoints. -/
theorem sqrt_rung (f : Format) (hf : 1 ≤ f.fractionBits) (m : Nat) (i : Int) (hm : 0 < m) (hm2 : m < 2 * f.binade) :
    ∃ R, ((Datum.number false m i).root (f.fractionBits + 2)).map f.write = some (f.word false R) ∧ R ≤ f.infRung ∧ ∀ r, r < f.infRung → (R ≤ r ↔ UptoS f m i r) := by
  unfold Datum.root
  simp only
  rw [if_neg (by omega), if_neg Bool.false_ne_true]
  have hl1 : m < 2 ^ (m.log2 + 1) := Nat.lt_log2_self
  have hl0 : 2 ^ m.log2 ≤ m := Nat.log2_self_le (by omega)
  have hL : m.log2 ≤ f.fractionBits := by
    have h3 : 2 ^ m.log2 < 2 ^ (f.fractionBits + 1) := by
      have : 2 * f.binade = 2 ^ (f.fractionBits + 1) := by show 2 * 2 ^ f.fractionBits = _; rw [Nat.pow_succ]; omega
      omega
    have := (Nat.pow_lt_pow_iff_right (by omega : 1 < 2)).1 h3
    omega
  obtain ⟨more, hmore⟩ : ∃ more, more = 2 * (f.fractionBits + 2) - m.log2 + ((i - ((2 * (f.fractionBits + 2) - m.log2 : Nat) : Int)) % 2).toNat := ⟨_, rfl⟩
  rw [← hmore]
  have hev : (i - (more : Int)) % 2 = 0 := by omega
  have hge : 2 * (f.fractionBits + 2) ≤ m.log2 + more := by omega
  obtain ⟨h1, h2⟩ := rootFrom_is (m <<< more)
  rw [Nat.shiftLeft_eq] at *
  have hn : 2 ^ (2 * (f.fractionBits + 2)) ≤ m * 2 ^ more := by
    have a1 : 2 ^ (2 * (f.fractionBits + 2)) ≤ 2 ^ (m.log2 + more) := Nat.pow_le_pow_right (by omega) hge
    rw [Nat.pow_add] at a1
    exact Nat.le_trans a1 (Nat.mul_le_mul_right _ hl0)
  generalize Datum.rootFrom (m * 2 ^ more) ((m * 2 ^ more).log2 / 2 + 1) 0 = q at *
  have hq : 2 ^ (f.fractionBits + 1) ≤ q := by
    refine Nat.le_of_not_lt fun h => ?_
    have a1 : (q + 1) * (q + 1) ≤ 2 ^ (f.fractionBits + 1) * 2 ^ (f.fractionBits + 1) := Nat.mul_le_mul (by omega) (by omega)
    rw [← Nat.pow_add] at a1
    have a2 : 2 ^ (f.fractionBits + 1 + (f.fractionBits + 1)) ≤ 2 ^ (2 * (f.fractionBits + 2)) := Nat.pow_le_pow_right (by omega) (by omega)
    omega
  have hz : (q * q != m * 2 ^ more).toNat = if q * q = m * 2 ^ more then 0 else 1 := by
    by_cases h : q * q = m * 2 ^ more
    · rw [if_pos h, h, bne_self_eq_false]; rfl
    · rw [if_neg h, show (q * q != m * 2 ^ more) = true from by rw [bne_iff_ne]; exact h]; rfl
  refine ⟨rungOf f (2 * q + (q * q != m * 2 ^ more).toNat) ((i - more) / 2 - 1), ?_, rungOf_le_inf _ _ _, fun r hr => ?_⟩
  · show some (f.nearest false _ _) = _
    rw [nearest_eq]
  · rw [stickyR f hf (m * 2 ^ more) q _ ((i - more) / 2) h1 h2 hz hq r hr]
    rw [show 2 * ((i - (more : Int)) / 2) = i - more from by omega]
    exact uptoS_scale f m i r more
end Go.Proofs.Ytllchfdddfmjbaa
