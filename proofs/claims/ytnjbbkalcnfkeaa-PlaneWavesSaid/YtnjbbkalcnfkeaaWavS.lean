/- Plain laws: the spectrum of 1, 2 or 4 points of whole numbers, exact, and back. -/
import Derived.Test.YtnjbbkalcnfkeaaWavP
namespace Go.Proofs.Ytnjbbkalcnfkeaa
open Go.RowKit Ieee
set_option linter.unusedVariables false

def cR (q : Nat) : Int := if q % 8 = 0 then 1 else if q % 8 = 4 then -1 else 0
def cI (q : Nat) : Int := if q % 8 = 2 then -1 else if q % 8 = 6 then 1 else 0
theorem wh_zero : Wh 0 0 := ⟨false, 0, 0, rfl, by simp, fun h => absurd rfl h, by decide⟩
theorem wh_one : Wh 4607182418800017408 1 := ⟨false, 4503599627370496, 1022, by rfl, by rw [E74_eq]; decide +kernel, fun _ => by decide, by decide⟩
theorem wh_mone : Wh 13830554455654793216 (-1) := ⟨true, 4503599627370496, 1022, by rfl, by rw [E74_eq]; decide +kernel, fun _ => by decide, by decide⟩
def Ev (q : Nat) : Prop := q = 0 ∨ q = 2 ∨ q = 4 ∨ q = 6 ∨ q = 8
theorem root_wh (q : Nat) (hq : Ev q) : Wh (rtX q) (cR q) ∧ Wh (rtY q) (cI q) := by
  rcases hq with rfl | rfl | rfl | rfl | rfl
  · exact ⟨wh_one, wh_zero⟩
  · exact ⟨wh_zero, wh_mone⟩
  · exact ⟨wh_mone, wh_zero⟩
  · exact ⟨wh_zero, wh_one⟩
  · exact ⟨wh_one, wh_zero⟩
def Un (c : Int) : Prop := c = 0 ∨ c = 1 ∨ c = -1
theorem un_R (q : Nat) : Un (cR q) := by
  unfold Un cR; split
  · exact .inr (.inl rfl)
  · split
    · exact .inr (.inr rfl)
    · exact .inl rfl
theorem un_I (q : Nat) : Un (cI q) := by
  unfold Un cI; split
  · exact .inr (.inr rfl)
  · split
    · exact .inr (.inl rfl)
    · exact .inl rfl
theorem un_mul {n c : Int} (h : Un c) : (n * c).natAbs ≤ n.natAbs := by
  rcases h with rfl | rfl | rfl
  · simp
  · simp
  · simp

def tS (f : Nat → Int) : Nat → Int
  | 0 => 0
  | k + 1 => tS f k + f k
theorem tS_bound (f : Nat → Int) (B : Nat) (k : Nat) (h : ∀ t, t < k → (f t).natAbs ≤ B) : (tS f k).natAbs ≤ k * B := by
  induction k with
  | zero => simp [tS]
  | succ k ih =>
    have h1 := ih (fun t ht => h t (by omega))
    have h2 := h k (by omega)
    unfold tS
    rw [Nat.add_mul, Nat.one_mul]
    omega
def gX (a b : Nat → Int) (q : Nat → Nat → Nat) (j t : Nat) : Int := a t * cR (q j t) - b t * cI (q j t)
def gY (a b : Nat → Int) (q : Nat → Nat → Nat) (j t : Nat) : Int := a t * cI (q j t) + b t * cR (q j t)
theorem g_bound (a b : Nat → Int) (q : Nat → Nat → Nat) (j t B : Nat) (ha : (a t).natAbs ≤ B) (hb : (b t).natAbs ≤ B) : (gX a b q j t).natAbs ≤ 2 * B ∧ (gY a b q j t).natAbs ≤ 2 * B := by
  unfold gX gY
  have h1 := un_mul (n := a t) (un_R (q j t))
  have h2 := un_mul (n := b t) (un_R (q j t))
  have h3 := un_mul (n := a t) (un_I (q j t))
  have h4 := un_mul (n := b t) (un_I (q j t))
  omega

def InvW (a b : Nat → Int) (q : Nat → Nat → Nat) (j k x y : Nat) : Prop := Wh x (tS (gX a b q j) k) ∧ Wh y (tS (gY a b q j) k)
theorem step_whole (n B : Nat) (hn : n ≤ 4) (hB : 10 * B ≤ LIM) (q : Nat → Nat → Nat) (px py : Nat → Nat) (a b : Nat → Int) (hq : ∀ j k, j < n → k < n → Ev (q j k))
    (hp : ∀ k, k < n → Wh (px k) (a k) ∧ Wh (py k) (b k)) (hb : ∀ k, k < n → (a k).natAbs ≤ B ∧ (b k).natAbs ≤ B) : StepH n q px py (InvW a b q) := by
  intro j k hj hk x y hI ma mb hma hmb x' y' hx hy
  obtain ⟨hr, hi⟩ := root_wh _ (hq j k hj hk)
  obtain ⟨hpx, hpy⟩ := hp k hk
  obtain ⟨b1, b2⟩ := hb k hk
  obtain ⟨i1, i2⟩ := hI
  have h1 := un_mul (n := a k) (un_R (q j k))
  have h2 := un_mul (n := b k) (un_R (q j k))
  have h3 := un_mul (n := a k) (un_I (q j k))
  have h4 := un_mul (n := b k) (un_I (q j k))
  have hk8 : k * (2 * B) ≤ 4 * (2 * B) := Nat.mul_le_mul_right _ (by omega)
  have t1 := tS_bound (gX a b q j) (2 * B) k (fun t ht => (g_bound a b q j t B (hb t (by omega)).1 (hb t (by omega)).2).1)
  have t2 := tS_bound (gY a b q j) (2 * B) k (fun t ht => (g_bound a b q j t B (hb t (by omega)).1 (hb t (by omega)).2).2)
  obtain ⟨z1, e1, w1⟩ := wh_mul hpx hr (by omega)
  obtain ⟨z2, e2, w2⟩ := wh_mul hpy hi (by omega)
  obtain ⟨z3, e3, w3⟩ := wh_mul hpx hi (by omega)
  obtain ⟨z4, e4, w4⟩ := wh_mul hpy hr (by omega)
  obtain ⟨z5, e5, w5⟩ := wh_sub w1 w2 (by omega)
  obtain ⟨z6, e6, w6⟩ := wh_add w3 w4 (by omega)
  rw [e1, e2] at hma
  rw [e3, e4] at hmb
  have g1 := isF_some e5 hma
  have g2 := isF_some e6 hmb
  subst g1 g2
  obtain ⟨z7, e7, w7⟩ := wh_add i1 w5 (by omega)
  obtain ⟨z8, e8, w8⟩ := wh_add i2 w6 (by omega)
  have g3 := isF_some e7 hx
  have g4 := isF_some e8 hy
  subst g3 g4
  exact ⟨w7, w8⟩

def tX (a b : Nat → Int) (n j : Nat) : Int := tS (gX a b (qF n) j) n
def tY (a b : Nat → Int) (n j : Nat) : Int := tS (gY a b (qF n) j) n
theorem t_bound (a b : Nat → Int) (n B : Nat) (hn : n ≤ 4) (hb : ∀ k, k < n → (a k).natAbs ≤ B ∧ (b k).natAbs ≤ B) (j : Nat) : (tX a b n j).natAbs ≤ 8 * B ∧ (tY a b n j).natAbs ≤ 8 * B := by
  have hk8 : n * (2 * B) ≤ 4 * (2 * B) := Nat.mul_le_mul_right _ hn
  have t1 := tS_bound (gX a b (qF n) j) (2 * B) n (fun t ht => (g_bound a b (qF n) j t B (hb t (by omega)).1 (hb t (by omega)).2).1)
  have t2 := tS_bound (gY a b (qF n) j) (2 * B) n (fun t ht => (g_bound a b (qF n) j t B (hb t (by omega)).1 (hb t (by omega)).2).2)
  unfold tX tY
  omega

theorem ev_F {n : Nat} (hn : n = 1 ∨ n = 2 ∨ n = 4) (j k : Nat) : Ev (qF n j k) ∧ Ev (8 - qF n j k) := by
  unfold Ev qF
  rcases hn with rfl | rfl | rfl
  · have := Nat.mul_mod_left (j * k) 8
    rw [show 8 / 1 = 8 from rfl]; omega
  · rw [show 8 / 2 = 4 from rfl]; omega
  · rw [show 8 / 4 = 2 from rfl]; omega

theorem inverse (a b : Nat → Int) {n : Nat} (hn : n = 1 ∨ n = 2 ∨ n = 4) (j : Nat) (hj : j < n) :
    tS (gX (tX a b n) (tY a b n) (fun j k => 8 - qF n j k) j) n = a j * n ∧ tS (gY (tX a b n) (tY a b n) (fun j k => 8 - qF n j k) j) n = b j * n := by
  rcases hn with rfl | rfl | rfl
  · obtain rfl : j = 0 := by omega
    simp [tS, gX, gY, tX, tY, cR, cI, qF]
  · have hj : j = 0 ∨ j = 1 := by omega
    rcases hj with rfl | rfl <;> simp [tS, gX, gY, tX, tY, cR, cI, qF] <;> omega
  · have hj : j = 0 ∨ j = 1 ∨ j = 2 ∨ j = 3 := by omega
    rcases hj with rfl | rfl | rfl | rfl <;> simp [tS, gX, gY, tX, tY, cR, cI, qF] <;> omega

theorem read_n {n : Nat} (hn : n = 1 ∨ n = 2 ∨ n = 4) : ∃ t : Nat, n = 2 ^ t ∧ t ≤ 52 ∧ double.read (floatOfInt .f64 (n : Int)) = .number false 4503599627370496 ((t : Int) - 52) := by
  rcases hn with rfl | rfl | rfl
  · exact ⟨0, rfl, by decide, by rfl⟩
  · exact ⟨1, rfl, by decide, by rfl⟩
  · exact ⟨2, rfl, by decide, by rfl⟩

/-- Back: each part divided is the point's own. -/
theorem back_fin (a b : Nat → Int) {n B : Nat} (hn : n = 1 ∨ n = 2 ∨ n = 4) (hB : B ≤ LIM) (hb : ∀ k, k < n → (a k).natAbs ≤ B ∧ (b k).natAbs ≤ B) (j : Nat) (hj : j < n) (x y : Nat)
    (h : InvW (tX a b n) (tY a b n) (fun j k => 8 - qF n j k) j n x y) :
    ∃ x' y', floatBits .quo .f64 x (floatOfInt .f64 (n : Int)) = some x' ∧ floatBits .quo .f64 y (floatOfInt .f64 (n : Int)) = some y' ∧ Wh x' (a j) ∧ Wh y' (b j) := by
  obtain ⟨i1, i2⟩ := inverse a b hn j hj
  obtain ⟨h1, h2⟩ := h
  rw [i1] at h1
  rw [i2] at h2
  obtain ⟨t, ht, ht2, hr⟩ := read_n hn
  obtain ⟨b1, b2⟩ := hb j hj
  rw [show (n : Int) = ((2 ^ t : Nat) : Int) from by rw [← ht]] at h1 h2
  obtain ⟨z1, e1, w1⟩ := wh_quo h1 ht2 hr (by omega)
  obtain ⟨z2, e2, w2⟩ := wh_quo h2 ht2 hr (by omega)
  exact ⟨z1, z2, e1, e2, w1, w2⟩
end Go.Proofs.Ytnjbbkalcnfkeaa
