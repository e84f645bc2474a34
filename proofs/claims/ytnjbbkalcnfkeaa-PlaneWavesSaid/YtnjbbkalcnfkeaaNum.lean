/- Plain law: Ieee's rounding is told by the midpoints between neighbouring rungs. No program in sight. -/
import Ieee.Arith
namespace Go.Proofs.Ytnjbbkalcnfkeaa
open Ieee

theorem cut_le (neg : Bool) (n drop k : Nat) :
    Toward.even.cut neg n drop ≤ k ↔ (2 * n < (2 * k + 1) * 2 ^ drop ∨ (2 * n = (2 * k + 1) * 2 ^ drop ∧ k % 2 = 0)) := by
  unfold Toward.cut
  simp only [Nat.one_shiftLeft]
  by_cases h : drop ≤ n.log2 + 2
  · rw [Nat.min_eq_left h]
    have hgp : 0 < 2 ^ drop := Nat.two_pow_pos _
    generalize 2 ^ drop = g at *
    have hdm := Nat.div_add_mod n g
    have hm := Nat.mod_lt n hgp
    generalize n / g = low at *
    generalize n % g = rest at *
    subst hdm
    rcases Nat.lt_trichotomy low k with hk | hk | hk
    · obtain ⟨t, rfl⟩ : ∃ t, k = low + 1 + t := ⟨k - low - 1, by omega⟩
      have e1 : (2 * (low + 1 + t) + 1) * g = 2 * (g * low) + 2 * g + 2 * (g * t) + g := by
        rw [Nat.mul_comm g low, Nat.mul_comm g t]; simp only [Nat.add_mul, Nat.mul_add, Nat.mul_assoc, Nat.one_mul]
      rw [e1]
      generalize g * low = x at *
      generalize g * t = y at *
      have hb : ∀ b : Bool, b.toNat ≤ 1 := fun b => by cases b <;> simp
      have := hb (decide (g < 2 * rest) || (g == 2 * rest && low % 2 == 1))
      omega
    · subst hk
      have e1 : (2 * low + 1) * g = 2 * (g * low) + g := by
        rw [Nat.mul_comm g low, Nat.add_mul, Nat.one_mul, Nat.mul_assoc]
      rw [e1]
      generalize g * low = x at *
      by_cases h1 : g < 2 * rest
      · simp [h1]; omega
      · by_cases h2 : g = 2 * rest
        · by_cases h3 : low % 2 = 1
          · simp [h2, h3]; omega
          · have h3' : low % 2 = 0 := by omega
            simp [h2, h3']; omega
        · have : (g == 2 * rest) = false := by simpa using h2
          simp [h1, this]; omega
    · obtain ⟨t, rfl⟩ : ∃ t, low = k + 1 + t := ⟨low - k - 1, by omega⟩
      have e1 : g * (k + 1 + t) = g * k + g + g * t := by simp only [Nat.mul_add, Nat.mul_one]
      have e2 : (2 * k + 1) * g = 2 * (g * k) + g := by
        rw [Nat.mul_comm g k, Nat.add_mul, Nat.one_mul, Nat.mul_assoc]
      rw [e1, e2]
      generalize g * k = x at *
      generalize g * t = y at *
      omega
  · rw [Nat.min_eq_right (by omega)]
    have h1 : n < 2 ^ (n.log2 + 1) := Nat.lt_log2_self
    have h2 : 2 ^ (n.log2 + 2) = 2 * 2 ^ (n.log2 + 1) := by rw [Nat.pow_succ]; omega
    have h3 : 2 ^ (n.log2 + 2) ≤ 2 ^ drop := Nat.pow_le_pow_right (by omega) (by omega)
    have h4 : 2 ^ drop ≤ (2 * k + 1) * 2 ^ drop := Nat.le_mul_of_pos_left _ (by omega)
    rw [Nat.div_eq_of_lt (by omega), Nat.mod_eq_of_lt (by omega)]
    have h5 : ¬ 2 ^ (n.log2 + 2) < 2 * n := by omega
    have h6 : (2 ^ (n.log2 + 2) == 2 * n) = false := by simp; omega
    simp [h5, h6]
    omega

/-- The size of rung r, in units of the format's least place. -/
def V (f : Format) (r : Nat) : Nat := if r < f.binade then r else (f.binade + r % f.binade) * 2 ^ (r / f.binade - 1)

/-- Twice the middle of rung r and the next one. -/
def M (f : Format) (r : Nat) : Nat := V f r + V f (r + 1)

theorem V_row (f : Format) (e k : Nat) (hk : k ≤ 2 * f.binade) (h : e = 0 ∨ f.binade ≤ k) : V f (e * f.binade + k) = k * 2 ^ e := by
  have hb : 0 < f.binade := Nat.two_pow_pos _
  unfold V
  generalize f.binade = b at *
  by_cases h0 : k < b
  · have : e = 0 := by omega
    subst this
    simp [h0]
  · by_cases h1 : k = 2 * b
    · subst h1
      have e1 : e * b + 2 * b = (e + 2) * b := by rw [Nat.add_mul]
      rw [e1, if_neg (by
        have : (e + 2) * b = e * b + 2 * b := by rw [Nat.add_mul]
        omega), Nat.mul_mod_left, Nat.mul_div_cancel _ hb]
      have : e + 2 - 1 = e + 1 := by omega
      rw [this, Nat.pow_succ]
      simp only [Nat.add_zero]
      rw [Nat.mul_comm (2 ^ e) 2, ← Nat.mul_assoc, Nat.mul_comm b 2]
    · obtain ⟨t, rfl⟩ : ∃ t, k = b + t := ⟨k - b, by omega⟩
      have ht : t < b := by omega
      have e1 : e * b + (b + t) = t + (e + 1) * b := by rw [Nat.add_mul]; omega
      rw [e1, if_neg (by
        have : (e + 1) * b = e * b + b := by rw [Nat.add_mul]; omega
        omega), Nat.add_mul_mod_self_right, Nat.add_mul_div_right _ _ hb, Nat.mod_eq_of_lt ht, Nat.div_eq_of_lt ht]
      simp

/-- Every rung lies in a row. -/
theorem row_of (f : Format) (r : Nat) : ∃ e k, r = e * f.binade + k ∧ k < 2 * f.binade ∧ (e = 0 ∨ f.binade ≤ k) := by
  have hb : 0 < f.binade := Nat.two_pow_pos _
  generalize f.binade = b at *
  by_cases h : r < b
  · exact ⟨0, r, by omega, by omega, .inl rfl⟩
  · refine ⟨r / b - 1, b + r % b, ?_, ?_, .inr (by omega)⟩
    · have h1 := Nat.div_add_mod r b
      have h2 : 1 ≤ r / b := (Nat.le_div_iff_mul_le hb).2 (by omega)
      obtain ⟨q, hq⟩ : ∃ q, r / b = q + 1 := ⟨r / b - 1, by omega⟩
      rw [hq] at h1 ⊢
      have : b * (q + 1) = q * b + b := by rw [Nat.mul_comm, Nat.add_mul]; omega
      simp only [Nat.add_sub_cancel]
      omega
    · have := Nat.mod_lt r hb
      omega

theorem M_row (f : Format) (e k : Nat) (hk : k < 2 * f.binade) (h : e = 0 ∨ f.binade ≤ k) : M f (e * f.binade + k) = (2 * k + 1) * 2 ^ e := by
  unfold M
  rw [V_row f e k (by omega) h, Nat.add_assoc, V_row f e (k + 1) (by omega) (by omega)]
  simp only [Nat.add_mul, Nat.one_mul, Nat.mul_assoc]
  omega

theorem V_lt_succ (f : Format) (r : Nat) : V f r < V f (r + 1) := by
  obtain ⟨e, k, rfl, hk, h⟩ := row_of f r
  rw [V_row f e k (by omega) h, Nat.add_assoc, V_row f e (k + 1) (by omega) (by omega)]
  have : 0 < 2 ^ e := Nat.two_pow_pos _
  rw [Nat.add_mul]; omega

theorem V_mono (f : Format) {r s : Nat} (h : r ≤ s) : V f r ≤ V f s := by
  induction s with
  | zero => have : r = 0 := by omega
            subst this; exact Nat.le_refl _
  | succ s ih =>
    by_cases e : r = s + 1
    · subst e; exact Nat.le_refl _
    · exact Nat.le_trans (ih (by omega)) (Nat.le_of_lt (V_lt_succ f s))

theorem V_strict (f : Format) {r s : Nat} (h : r < s) : V f r < V f s :=
  Nat.lt_of_lt_of_le (V_lt_succ f r) (V_mono f h)

/-- The rung of 'mag * 2 ^ place'. -/
def rungOf (f : Format) (mag : Nat) (place : Int) : Nat :=
  if mag = 0 then 0 else
  let last := max (place + mag.log2 - f.fractionBits) f.leastPlace
  min ((last - f.leastPlace).toNat * f.binade + Toward.even.cut false (mag <<< (place - last).toNat) (last - place).toNat) f.infRung

theorem cut_even_neg (neg : Bool) (n drop : Nat) : Toward.even.cut neg n drop = Toward.even.cut false n drop := rfl

theorem nearest_eq (f : Format) (neg : Bool) (mag : Nat) (place : Int) : f.nearest neg mag place = f.word neg (rungOf f mag place) := by
  unfold Format.nearest rungOf
  split
  · rfl
  · rfl

/-- Below the middle above rung r, or upon it where r is even: N over D, in units of the least place. -/
def Upto (f : Format) (N D r : Nat) : Prop := 2 * N < M f r * D ∨ (2 * N = M f r * D ∧ r % 2 = 0)

theorem rungOf_le_inf (f : Format) (mag : Nat) (place : Int) : rungOf f mag place ≤ f.infRung := by
  unfold rungOf
  split
  · exact Nat.zero_le _
  · exact Nat.min_le_right _ _


theorem scale_lt {N T n E c : Nat} (hT : 0 < T) (hE : 0 < E) (h : N * T = n * E) : 2 * N < c * E ↔ 2 * n < c * T := by
  have e1 : 2 * N * T = 2 * n * E := by rw [Nat.mul_assoc, h, Nat.mul_assoc]
  have e2 : c * E * T = c * T * E := by rw [Nat.mul_assoc, Nat.mul_assoc, Nat.mul_comm E T]
  constructor
  · intro hl
    have := Nat.mul_lt_mul_of_pos_right hl hT
    rw [e1, e2] at this
    exact Nat.lt_of_mul_lt_mul_right this
  · intro hl
    have := Nat.mul_lt_mul_of_pos_right hl hE
    rw [← e1, ← e2] at this
    exact Nat.lt_of_mul_lt_mul_right this

theorem scale_eq {N T n E c : Nat} (hT : 0 < T) (hE : 0 < E) (h : N * T = n * E) : 2 * N = c * E ↔ 2 * n = c * T := by
  have e1 : 2 * N * T = 2 * n * E := by rw [Nat.mul_assoc, h, Nat.mul_assoc]
  have e2 : c * E * T = c * T * E := by rw [Nat.mul_assoc, Nat.mul_assoc, Nat.mul_comm E T]
  constructor
  · intro hl
    rw [hl, e2] at e1
    exact (Nat.eq_of_mul_eq_mul_right hE e1).symm
  · intro hl
    rw [hl, ← e2] at e1
    exact Nat.eq_of_mul_eq_mul_right hT e1

/-- ROUNDING, TOLD BY MIDPOINTS. -/
theorem rungOf_le (f : Format) (hf : 1 ≤ f.fractionBits) (mag : Nat) (hm : 0 < mag) (place : Int) (r : Nat) (hr : r < f.infRung) :
    rungOf f mag place ≤ r ↔ Upto f (mag * 2 ^ (place - f.leastPlace).toNat) (2 ^ (f.leastPlace - place).toNat) r := by
  unfold rungOf
  rw [if_neg (by omega)]
  simp only
  have hmin : ∀ x : Nat, min x f.infRung ≤ r ↔ x ≤ r := fun x => by omega
  rw [hmin]
  have hl1 : mag < 2 ^ (mag.log2 + 1) := Nat.lt_log2_self
  have hl0 : 2 ^ mag.log2 ≤ mag := Nat.log2_self_le (by omega)
  generalize mag.log2 = L at *
  have hlast : max (place + (L : Int) - f.fractionBits) f.leastPlace = place + L - f.fractionBits ∨ max (place + (L : Int) - f.fractionBits) f.leastPlace = f.leastPlace := by omega
  have hlast1 : place + (L : Int) - f.fractionBits ≤ max (place + (L : Int) - f.fractionBits) f.leastPlace := by omega
  have hlast2 : f.leastPlace ≤ max (place + (L : Int) - f.fractionBits) f.leastPlace := by omega
  generalize max (place + (L : Int) - f.fractionBits) f.leastPlace = last at *
  have hbb : f.binade = 2 ^ f.fractionBits := rfl
  have hbe : f.binade % 2 = 0 := by
    rw [hbb]; obtain ⟨q, hq⟩ : ∃ q, f.fractionBits = q + 1 := ⟨f.fractionBits - 1, by omega⟩
    rw [hq, Nat.pow_succ]; omega
  have hb : 0 < f.binade := Nat.two_pow_pos _
  generalize hu : (place - last).toNat = u
  generalize hd : (last - place).toNat = d
  generalize he : (last - f.leastPlace).toNat = e
  have hexp : (place - f.leastPlace).toNat + d = u + (e + (f.leastPlace - place).toNat) := by omega
  generalize hN : mag * 2 ^ (place - f.leastPlace).toNat = N
  generalize hD : 2 ^ (f.leastPlace - place).toNat = D
  have hD0 : 0 < D := by rw [← hD]; exact Nat.two_pow_pos _
  have hA0 : 0 < 2 ^ e := Nat.two_pow_pos _
  have hT0 : 0 < 2 ^ d := Nat.two_pow_pos _
  have hE0 : 0 < 2 ^ e * D := Nat.mul_pos hA0 hD0
  rw [Nat.shiftLeft_eq]
  have hx : N * 2 ^ d = mag * 2 ^ u * (2 ^ e * D) := by
    rw [← hN, ← hD, ← Nat.pow_add, Nat.mul_assoc, Nat.mul_assoc, ← Nat.pow_add, ← Nat.pow_add, hexp]
  have hup : mag * 2 ^ u < 2 * f.binade * 2 ^ d := by
    have h1 : mag * 2 ^ u < 2 ^ (L + 1) * 2 ^ u := Nat.mul_lt_mul_of_pos_right hl1 (Nat.two_pow_pos _)
    have h2 : 2 ^ (L + 1) * 2 ^ u ≤ 2 ^ (f.fractionBits + 1) * 2 ^ d := by
      rw [← Nat.pow_add, ← Nat.pow_add]; exact Nat.pow_le_pow_right (by omega) (by omega)
    have h3 : 2 * f.binade = 2 ^ (f.fractionBits + 1) := by rw [hbb, Nat.pow_succ]; omega
    rw [h3]; omega
  have hlo : 0 < e → f.binade * 2 ^ d ≤ mag * 2 ^ u := by
    intro h0
    have h1 : 2 ^ L * 2 ^ u ≤ mag * 2 ^ u := Nat.mul_le_mul_right _ hl0
    have h2 : 2 ^ f.fractionBits * 2 ^ d ≤ 2 ^ L * 2 ^ u := by
      rw [← Nat.pow_add, ← Nat.pow_add]; exact Nat.pow_le_pow_right (by omega) (by omega)
    rw [hbb]; omega
  generalize mag * 2 ^ u = n at *
  have hcut := fun k => cut_le false n d k
  generalize Toward.even.cut false n d = kept at *
  have hk2 : kept ≤ 2 * f.binade := (hcut _).2 (.inl (by
    have : (2 * (2 * f.binade) + 1) * 2 ^ d = 2 * (2 * f.binade * 2 ^ d) + 2 ^ d := by
      rw [Nat.add_mul, Nat.one_mul, Nat.mul_assoc 2 (2 * f.binade)]
    rw [this]; omega))
  have hk1 : 0 < e → f.binade ≤ kept := by
    intro h0
    have h1 := hlo h0
    refine Nat.le_of_not_lt fun hlt => ?_
    obtain ⟨c, hc⟩ : ∃ c, f.binade = c + 1 := ⟨f.binade - 1, by omega⟩
    have h2 := (hcut c).1 (by omega)
    have h3 : (2 * c + 1) * 2 ^ d < 2 * (f.binade * 2 ^ d) := by
      rw [hc, ← Nat.mul_assoc]
      exact Nat.mul_lt_mul_of_pos_right (by omega) hT0
    omega
  obtain ⟨er, kr, rfl, hkr, hrow⟩ := row_of f r
  unfold Upto
  rw [M_row f er kr hkr hrow]
  have hpar : (er * f.binade + kr) % 2 = kr % 2 := by
    have : (er * f.binade) % 2 = 0 := by rw [Nat.mul_mod, hbe]; simp
    omega
  rw [hpar]
  rcases Nat.lt_trichotomy er e with hlt | heq | hgt
  · -- the result lies in a higher row
    have h1 := hk1 (by omega)
    have h2 : ¬ 2 * N < 2 * f.binade * (2 ^ e * D) := by
      rw [scale_lt hT0 hE0 hx]
      have := hlo (by omega)
      rw [Nat.mul_assoc]; omega
    have h3 : (er + 1) * f.binade ≤ e * f.binade := Nat.mul_le_mul_right _ hlt
    rw [Nat.add_mul, Nat.one_mul] at h3
    have h4 : (2 * kr + 1) * 2 ^ er * D < 2 * f.binade * (2 ^ e * D) := by
      rw [Nat.mul_assoc, ← Nat.mul_assoc]
      have h5 : (2 * kr + 1) * 2 ^ er < 2 * f.binade * 2 ^ e := by
        have h6 : 2 ^ (er + 1) ≤ 2 ^ e := Nat.pow_le_pow_right (by omega) hlt
        rw [Nat.pow_succ] at h6
        have h7 : (2 * kr + 1) * 2 ^ er < 4 * f.binade * 2 ^ er := Nat.mul_lt_mul_of_pos_right (by omega) (Nat.two_pow_pos _)
        have h8 : 4 * f.binade * 2 ^ er = 2 * f.binade * (2 ^ er * 2) := by
          rw [Nat.mul_comm (2 ^ er) 2, ← Nat.mul_assoc]; congr 1; omega
        have h9 : 2 * f.binade * (2 ^ er * 2) ≤ 2 * f.binade * 2 ^ e := Nat.mul_le_mul_left _ h6
        omega
      rw [← Nat.mul_assoc (2 * f.binade)]
      exact Nat.mul_lt_mul_of_pos_right h5 hD0
    constructor
    · intro h; omega
    · rintro (h | ⟨h, _⟩) <;> omega
  · subst heq
    have e1 : (2 * kr + 1) * 2 ^ er * D = (2 * kr + 1) * (2 ^ er * D) := by rw [Nat.mul_assoc]
    rw [e1, scale_lt hT0 hE0 hx, scale_eq hT0 hE0 hx, ← hcut kr]
    omega
  · have h0 : f.binade ≤ kr := by omega
    have h3 : (e + 1) * f.binade ≤ er * f.binade := Nat.mul_le_mul_right _ hgt
    rw [Nat.add_mul, Nat.one_mul] at h3
    have h2 : 2 * N < 4 * f.binade * (2 ^ e * D) := by
      rw [scale_lt hT0 hE0 hx]
      have : 4 * f.binade * 2 ^ d = 2 * (2 * f.binade * 2 ^ d) := by rw [← Nat.mul_assoc]; congr 1; omega
      omega
    have h4 : 4 * f.binade * (2 ^ e * D) ≤ (2 * kr + 1) * 2 ^ er * D := by
      rw [← Nat.mul_assoc]
      refine Nat.mul_le_mul_right _ ?_
      have h6 : 2 ^ (e + 1) ≤ 2 ^ er := Nat.pow_le_pow_right (by omega) hgt
      rw [Nat.pow_succ] at h6
      have h8 : 4 * f.binade * 2 ^ e = 2 * f.binade * (2 ^ e * 2) := by
        rw [Nat.mul_comm (2 ^ e) 2, ← Nat.mul_assoc]; congr 1; omega
      rw [h8]
      exact Nat.le_trans (Nat.mul_le_mul_left _ h6) (Nat.mul_le_mul_right _ (by omega))
    constructor
    · intro _; exact .inl (by omega)
    · intro _; omega

theorem rung_unique {a b I : Nat} (ha : a ≤ I) (hb : b ≤ I) (h : ∀ r, r < I → (a ≤ r ↔ b ≤ r)) : a = b := by
  rcases Nat.lt_trichotomy a b with hlt | heq | hgt
  · have := (h a (by omega)).1 (Nat.le_refl _); omega
  · exact heq
  · have := (h b (by omega)).2 (Nat.le_refl _); omega

/-! ### Words read back -/

theorem infRung_add (f : Format) : f.infRung + f.binade = f.signWeight := by
  have h : 0 < 2 ^ f.exponentBits := Nat.two_pow_pos _
  unfold Format.infRung Format.signWeight
  rw [Nat.pow_add, ← Nat.succ_mul]
  exact congrArg (· * f.binade) (by omega)

theorem inf_lt_sign (f : Format) : f.infRung < f.signWeight := by
  have h : 0 < f.binade := Nat.two_pow_pos _
  have := infRung_add f
  omega

theorem word_div (f : Format) (neg : Bool) (rung : Nat) (h : rung < f.signWeight) : (f.word neg rung / f.signWeight % 2 == 1) = neg := by
  unfold Format.word
  cases neg
  · simp [Nat.div_eq_of_lt h]
  · have : (f.signWeight + rung) / f.signWeight = 1 := by
      rw [Nat.add_div_left _ (by omega), Nat.div_eq_of_lt h]
    simp [this]

theorem word_mod (f : Format) (neg : Bool) (rung : Nat) (h : rung < f.signWeight) : f.word neg rung % f.signWeight = rung := by
  unfold Format.word
  cases neg
  · simp [Nat.mod_eq_of_lt h]
  · simp [Nat.mod_eq_of_lt h]

/-- A finite word, read: its row and place in it. -/
theorem read_row (f : Format) (neg : Bool) (e k : Nat) (hk : k < 2 * f.binade) (hrow : e = 0 ∨ f.binade ≤ k) (hfin : e * f.binade + k < f.infRung) :
    f.read (f.word neg (e * f.binade + k)) = .number neg k (f.leastPlace + e) := by
  have hs := inf_lt_sign f
  have hb : 0 < f.binade := Nat.two_pow_pos _
  unfold Format.read
  rw [word_div f neg _ (by omega), word_mod f neg _ (by omega)]
  dsimp only
  generalize f.binade = b at *
  by_cases h0 : k < b
  · have : e = 0 := by omega
    subst this
    simp [h0]
  · obtain ⟨t, rfl⟩ : ∃ t, k = b + t := ⟨k - b, by omega⟩
    have ht : t < b := by omega
    have e1 : e * b + (b + t) = t + (e + 1) * b := by rw [Nat.add_mul]; omega
    rw [e1] at hfin ⊢
    rw [if_neg (by
        have : (e + 1) * b = e * b + b := by rw [Nat.add_mul]; omega
        omega), if_pos hfin, Nat.add_mul_mod_self_right, Nat.add_mul_div_right _ _ hb, Nat.mod_eq_of_lt ht, Nat.div_eq_of_lt ht]
    simp

theorem binade_le_inf (f : Format) (hf : 2 ≤ f.exponentBits) : f.binade ≤ f.infRung := by
  have h4 : 4 ≤ 2 ^ f.exponentBits := by
    have : 2 ^ 2 ≤ 2 ^ f.exponentBits := Nat.pow_le_pow_right (by omega) hf
    omega
  have : 1 * f.binade ≤ f.infRung := Nat.mul_le_mul_right _ (by omega)
  omega

theorem read_inf (f : Format) (hf : 2 ≤ f.exponentBits) (neg : Bool) : f.read (f.word neg f.infRung) = .infinity neg := by
  have hs := inf_lt_sign f
  have hb : 0 < f.binade := Nat.two_pow_pos _
  unfold Format.read
  rw [word_div f neg _ hs, word_mod f neg _ hs]
  dsimp only
  have : ¬ f.infRung < f.binade := by
    have h4 : 4 ≤ 2 ^ f.exponentBits := by
      have : 2 ^ 2 ≤ 2 ^ f.exponentBits := Nat.pow_le_pow_right (by omega) hf
      omega
    have : 1 * f.binade ≤ f.infRung := Nat.mul_le_mul_right _ (by omega)
    omega
  rw [if_neg this, if_neg (by omega), if_pos rfl]

/-- Every word is one of a sign and a rung. -/
theorem word_of (f : Format) (a : Nat) (h : a < 2 * f.signWeight) : a = f.word (a / f.signWeight % 2 == 1) (a % f.signWeight) := by
  have hs : 0 < f.signWeight := Nat.two_pow_pos _
  have h1 := Nat.div_add_mod a f.signWeight
  have h2 : a / f.signWeight < 2 := (Nat.div_lt_iff_lt_mul hs).2 (by omega)
  unfold Format.word
  generalize a % f.signWeight = m at *
  generalize a / f.signWeight = q at *
  have : q = 0 ∨ q = 1 := by omega
  rcases this with rfl | rfl
  · simp; omega
  · simp; omega

theorem cut_zero (neg : Bool) (n : Nat) : Toward.even.cut neg n 0 = n := by
  unfold Toward.cut
  simp [Nat.mod_one]

/-- Half to even, as a program does it. -/
theorem cut_eval (neg : Bool) (n drop : Nat) :
    Toward.even.cut neg n drop = n / 2 ^ drop + (if 2 ^ drop < 2 * (n % 2 ^ drop) ∨ (2 ^ drop = 2 * (n % 2 ^ drop) ∧ n / 2 ^ drop % 2 = 1) then 1 else 0) := by
  have key : ∀ k, Toward.even.cut neg n drop ≤ k ↔ n / 2 ^ drop + (if 2 ^ drop < 2 * (n % 2 ^ drop) ∨ (2 ^ drop = 2 * (n % 2 ^ drop) ∧ n / 2 ^ drop % 2 = 1) then 1 else 0) ≤ k := by
    intro k
    rw [cut_le]
    have hgp : 0 < 2 ^ drop := Nat.two_pow_pos _
    generalize 2 ^ drop = g at *
    have hdm := Nat.div_add_mod n g
    have hm := Nat.mod_lt n hgp
    generalize n / g = low at *
    generalize n % g = rest at *
    subst hdm
    rcases Nat.lt_trichotomy low k with hk | hk | hk
    · obtain ⟨t, rfl⟩ : ∃ t, k = low + 1 + t := ⟨k - low - 1, by omega⟩
      have e1 : (2 * (low + 1 + t) + 1) * g = 2 * (g * low) + 2 * g + 2 * (g * t) + g := by
        rw [Nat.mul_comm g low, Nat.mul_comm g t]; simp only [Nat.add_mul, Nat.mul_add, Nat.mul_assoc, Nat.one_mul]
      rw [e1]
      generalize g * low = x at *
      generalize g * t = y at *
      split <;> omega
    · subst hk
      have e1 : (2 * low + 1) * g = 2 * (g * low) + g := by
        rw [Nat.mul_comm g low, Nat.add_mul, Nat.one_mul, Nat.mul_assoc]
      rw [e1]
      generalize g * low = x at *
      split <;> omega
    · obtain ⟨t, rfl⟩ : ∃ t, low = k + 1 + t := ⟨low - k - 1, by omega⟩
      have e1 : g * (k + 1 + t) = g * k + g + g * t := by simp only [Nat.mul_add, Nat.mul_one]
      have e2 : (2 * k + 1) * g = 2 * (g * k) + g := by
        rw [Nat.mul_comm g k, Nat.add_mul, Nat.one_mul, Nat.mul_assoc]
      rw [e1, e2]
      generalize g * k = x at *
      generalize g * t = y at *
      split <;> omega
  have h1 := (key _).2 (Nat.le_refl _)
  have h2 := (key _).1 (Nat.le_refl _)
  omega

/-- The greatest power of a finite word. -/
def high (f : Format) : Int := f.leastPlace + (2 ^ f.exponentBits : Nat) - 3

def heldD (f : Format) (neg : Bool) (m : Nat) (p : Int) : Datum := if high f < p then .infinity neg else .number neg m p

theorem read_capped (f : Format) (hf : 2 ≤ f.exponentBits) (neg : Bool) (e k : Nat) (hk : k < 2 * f.binade) (hrow : e = 0 ∨ f.binade ≤ k) :
    f.read (f.word neg (min (e * f.binade + k) f.infRung)) = heldD f neg k (f.leastPlace + e) := by
  have hb : 0 < f.binade := Nat.two_pow_pos _
  have hinf : f.infRung = (2 ^ f.exponentBits - 1) * f.binade := rfl
  have h4 : 4 ≤ 2 ^ f.exponentBits := by
    have : 2 ^ 2 ≤ 2 ^ f.exponentBits := Nat.pow_le_pow_right (by omega) hf
    omega
  unfold heldD high
  by_cases h : e + 2 ≤ 2 ^ f.exponentBits - 1
  · have h1 : (e + 2) * f.binade ≤ (2 ^ f.exponentBits - 1) * f.binade := Nat.mul_le_mul_right _ h
    rw [Nat.add_mul] at h1
    rw [Nat.min_eq_left (by omega), if_neg (by omega)]
    exact read_row f neg e k hk hrow (by omega)
  · have h1 : (2 ^ f.exponentBits - 1) * f.binade ≤ (e + 1) * f.binade := Nat.mul_le_mul_right _ (by omega)
    rw [Nat.add_mul, Nat.one_mul] at h1
    rw [Nat.min_eq_right (by omega), if_pos (by omega)]
    exact read_inf f hf neg

theorem kept_raw (f : Format) (n : Nat) (hn : 0 < n) (place last : Int) (hlast : last = max (place + n.log2 - f.fractionBits) f.leastPlace) :
    n * 2 ^ (place - last).toNat < 2 * f.binade * 2 ^ (last - place).toNat ∧ (f.leastPlace < last → f.binade * 2 ^ (last - place).toNat ≤ n * 2 ^ (place - last).toNat) := by
  have hl1 : n < 2 ^ (n.log2 + 1) := Nat.lt_log2_self
  have hl0 : 2 ^ n.log2 ≤ n := Nat.log2_self_le (by omega)
  have hbb : f.binade = 2 ^ f.fractionBits := rfl
  generalize n.log2 = L at *
  have hlast1 : place + (L : Int) - f.fractionBits ≤ last := by omega
  have hlast0 : f.leastPlace < last → place + (L : Int) - f.fractionBits = last := by omega
  generalize hu : (place - last).toNat = u
  generalize hd : (last - place).toNat = d
  constructor
  · have h1 : n * 2 ^ u < 2 ^ (L + 1) * 2 ^ u := Nat.mul_lt_mul_of_pos_right hl1 (Nat.two_pow_pos _)
    have h2 : 2 ^ (L + 1) * 2 ^ u ≤ 2 ^ (f.fractionBits + 1) * 2 ^ d := by
      rw [← Nat.pow_add, ← Nat.pow_add]; exact Nat.pow_le_pow_right (by omega) (by omega)
    have h3 : 2 * f.binade = 2 ^ (f.fractionBits + 1) := by rw [hbb, Nat.pow_succ]; omega
    rw [h3]; omega
  · intro h0
    have h4 := hlast0 h0
    have h1 : 2 ^ L * 2 ^ u ≤ n * 2 ^ u := Nat.mul_le_mul_right _ hl0
    have h2 : 2 ^ f.fractionBits * 2 ^ d ≤ 2 ^ L * 2 ^ u := by
      rw [← Nat.pow_add, ← Nat.pow_add]; exact Nat.pow_le_pow_right (by omega) (by omega)
    rw [hbb]; omega

theorem kept_bounds (f : Format) (neg : Bool) (n : Nat) (hn : 0 < n) (place last : Int) (hlast : last = max (place + n.log2 - f.fractionBits) f.leastPlace)
    (kept : Nat) (hkept : kept = Toward.even.cut neg (n <<< (place - last).toNat) (last - place).toNat) :
    kept ≤ 2 * f.binade ∧ (f.leastPlace < last → f.binade ≤ kept) := by
  obtain ⟨hup, hlo⟩ := kept_raw f n hn place last hlast
  have hb : 0 < f.binade := Nat.two_pow_pos _
  rw [Nat.shiftLeft_eq] at hkept
  generalize (last - place).toNat = d at *
  generalize n * 2 ^ (place - last).toNat = x at *
  have hT0 : 0 < 2 ^ d := Nat.two_pow_pos _
  have hcut := fun k => cut_le neg x d k
  rw [← hkept] at hcut
  constructor
  · refine (hcut _).2 (.inl ?_)
    have : (2 * (2 * f.binade) + 1) * 2 ^ d = 2 * (2 * f.binade * 2 ^ d) + 2 ^ d := by
      rw [Nat.add_mul, Nat.one_mul, Nat.mul_assoc 2 (2 * f.binade)]
    rw [this]; omega
  · intro h0
    have h1 := hlo h0
    refine Nat.le_of_not_lt fun hlt => ?_
    obtain ⟨c, hc⟩ : ∃ c, f.binade = c + 1 := ⟨f.binade - 1, by omega⟩
    have h2 := (hcut c).1 (by omega)
    have h3 : (2 * c + 1) * 2 ^ d < 2 * (f.binade * 2 ^ d) := by
      rw [hc, ← Nat.mul_assoc]
      exact Nat.mul_lt_mul_of_pos_right (by omega) hT0
    omega

/-- What a rounding comes to, read back. -/
theorem read_nearest (f : Format) (hf : 2 ≤ f.exponentBits) (neg : Bool) (n : Nat) (hn : 0 < n) (place last : Int) (kept : Nat)
    (hlast : last = max (place + n.log2 - f.fractionBits) f.leastPlace)
    (hkept : kept = Toward.even.cut neg (n <<< (place - last).toNat) (last - place).toNat) :
    f.read (f.nearest neg n place) = if kept = 2 * f.binade then heldD f neg f.binade (last + 1) else heldD f neg kept last := by
  obtain ⟨hk2, hk1⟩ := kept_bounds f neg n hn place last hlast kept hkept
  have hb : 0 < f.binade := Nat.two_pow_pos _
  have e1 : f.nearest neg n place = f.word neg (min ((last - f.leastPlace).toNat * f.binade + kept) f.infRung) := by
    unfold Format.nearest
    rw [if_neg (by omega)]
    simp only [← hlast, ← hkept]
  rw [e1]
  have hl : f.leastPlace ≤ last := by omega
  obtain ⟨e, he⟩ : ∃ e : Nat, last = f.leastPlace + e := ⟨(last - f.leastPlace).toNat, by omega⟩
  have he' : (last - f.leastPlace).toNat = e := by omega
  rw [he']
  split
  · rename_i h
    have : e * f.binade + kept = (e + 1) * f.binade + f.binade := by rw [h, Nat.add_mul]; omega
    rw [this, read_capped f hf neg (e + 1) f.binade (by omega) (.inr (Nat.le_refl _)), he]
    congr 1
    omega
  · rename_i h
    rw [read_capped f hf neg e kept (by omega) (by
      by_cases h0 : e = 0
      · exact .inl h0
      · exact .inr (hk1 (by omega))), he]

theorem read_nearest_zero (f : Format) (hf : 2 ≤ f.exponentBits) (neg : Bool) (place : Int) : f.read (f.nearest neg 0 place) = .number neg 0 f.leastPlace := by
  have hb : 0 < f.binade := Nat.two_pow_pos _
  have h4 : 4 ≤ 2 ^ f.exponentBits := by
    have : 2 ^ 2 ≤ 2 ^ f.exponentBits := Nat.pow_le_pow_right (by omega) hf
    omega
  have hi : 0 < f.infRung := Nat.mul_pos (by omega) hb
  unfold Format.nearest
  rw [if_pos rfl]
  have := read_row f neg 0 0 (by omega) (.inl rfl) (by omega)
  simpa using this

/-! ### What is written is no NaN -/
theorem heldD_notNaN (f : Format) (neg : Bool) (m : Nat) (p : Int) : (heldD f neg m p).isNaN = false := by
  unfold heldD; split <;> rfl

theorem write_notNaN (f : Format) (hf : 2 ≤ f.exponentBits) (d : Datum) (h : d.isNaN = false) : (f.read (f.write d)).isNaN = false := by
  cases d with
  | nan s t => simp [Datum.isNaN] at h
  | infinity s => rw [Format.write, read_inf f hf]; rfl
  | number s m p =>
    rw [Format.write]
    by_cases hm : m = 0
    · subst hm; rw [read_nearest_zero f hf]; rfl
    · rw [read_nearest f hf s m (by omega) p _ _ rfl rfl]
      split <;> exact heldD_notNaN ..

theorem sum_notNaN {a b d : Datum} (h : a.sum b = some d) : d.isNaN = false := by
  cases a <;> cases b <;> simp only [Datum.sum] at h <;> first | (cases h; rfl) | (cases h; done) | (split at h <;> first | (cases h; rfl) | (cases h; done))
theorem product_notNaN {a b d : Datum} (h : a.product b = some d) : d.isNaN = false := by
  cases a <;> cases b <;> simp only [Datum.product] at h <;> first | (cases h; rfl) | (cases h; done) | (split at h <;> first | (cases h; rfl) | (cases h; done))
theorem quotient_notNaN {g : Nat} {a b d : Datum} (h : a.quotient g b = some d) : d.isNaN = false := by
  cases a <;> cases b <;> simp only [Datum.quotient] at h <;> first | (cases h; rfl) | (cases h; done) | (split at h <;> first | (cases h; rfl) | (cases h; done) | (split at h <;> first | (cases h; rfl) | (cases h; done)))
theorem root_notNaN {g : Nat} {a d : Datum} (h : a.root g = some d) : d.isNaN = false := by
  cases a <;> simp only [Datum.root] at h <;> first | (cases h; rfl) | (cases h; done) | (split at h <;> first | (cases h; rfl) | (cases h; done) | (split at h <;> first | (cases h; rfl) | (cases h; done)))

/-- The one NaN of binary32. -/
def oneNaN : Nat := 2143289344
/-- A word with the one NaN for each NaN. -/
def clean (v : Nat) : Nat := if (single.read v).isNaN then oneNaN else v
def sumW (a b : Nat) : Nat := (single.add a b).getD oneNaN
def restW (a b : Nat) : Nat := (single.sub a b).getD oneNaN
def productW (a b : Nat) : Nat := (single.mul a b).getD oneNaN
def ratioW (a b : Nat) : Nat := (single.div a b).getD oneNaN

theorem clean_of_map {o : Option Datum} {r : Nat} (h : o.map single.write = some r) (ho : ∀ d, o = some d → d.isNaN = false) : clean r = r := by
  cases o with
  | none => cases h
  | some d =>
    cases h
    unfold clean
    rw [write_notNaN single (by decide) d (ho d rfl)]
    simp
theorem clean_add {a b r : Nat} (h : single.add a b = some r) : clean r = r := clean_of_map h fun _ => sum_notNaN
theorem clean_sub {a b r : Nat} (h : single.sub a b = some r) : clean r = r := clean_of_map h fun _ => sum_notNaN
theorem clean_mul {a b r : Nat} (h : single.mul a b = some r) : clean r = r := clean_of_map h fun _ => product_notNaN
theorem clean_div {a b r : Nat} (h : single.div a b = some r) : clean r = r := clean_of_map h fun _ => quotient_notNaN
end Go.Proofs.Ytnjbbkalcnfkeaa
