/- Plain law: the reference's quotient is the model's; contract of Ratio, joined; contract of Ratios. -/
import Derived.Test.YtfgbjaejkfkmmaaRatio2
import Derived.Test.YtfgbjaejkfkmmaaWords
import Derived.Test.YtfgbjaejkfkmmaaSticky
namespace Go.Proofs.Ytfgbjaejkfkmmaa
open Go.RowKit Ieee

theorem big_quot (m n k : Nat) (hm : 0 < m) (hn : 0 < n) (hk : 25 + n.log2 ≤ m.log2 + k) : 2 ^ 24 ≤ m * 2 ^ k / n := by
  rw [Nat.le_div_iff_mul_le hn]
  have h1 : 2 ^ m.log2 ≤ m := Nat.log2_self_le (by omega)
  have h2 : n < 2 ^ (n.log2 + 1) := Nat.lt_log2_self
  have h3 : 2 ^ 24 * n ≤ 2 ^ 24 * 2 ^ (n.log2 + 1) := Nat.mul_le_mul_left _ (by omega)
  have h4 : 2 ^ (25 + n.log2) ≤ 2 ^ (m.log2 + k) := Nat.pow_le_pow_right (by omega) hk
  have h5 : 2 ^ m.log2 * 2 ^ k ≤ m * 2 ^ k := Nat.mul_le_mul_right _ h1
  rw [← Nat.pow_add] at h3 h5
  rw [show 24 + (n.log2 + 1) = 25 + n.log2 from by omega] at h3
  omega

theorem quot_word (s t : Bool) (m n : Nat) (i j : Int) (hn0 : 0 < n) (hn : n < 16777216) :
    resD ((Datum.number s m i).quotient 25 (Datum.number t n j)) =
      single.read (single.nearest (!(s == t)) (if decide (0 < m * 2 ^ 128 % n) then 2 * (m * 2 ^ 128 / n) + 1 else m * 2 ^ 128 / n) (if decide (0 < m * 2 ^ 128 % n) then i - j - 128 - 1 else i - j - 128)) := by
  unfold Datum.quotient
  simp only
  rw [if_neg (by omega)]
  generalize hmore : 25 + n.log2 - m.log2 = more
  unfold resD
  simp only
  show single.read (single.nearest (s ^^ t) _ _) = _
  rw [← xor_ne, Nat.shiftLeft_eq]
  by_cases hm : m = 0
  · subst hm
    have e1 : 0 * 2 ^ 128 % n = 0 := by rw [Nat.zero_mul, Nat.zero_mod]
    have e2 : 0 * 2 ^ more % n = 0 := by rw [Nat.zero_mul, Nat.zero_mod]
    have e3 : 0 * 2 ^ 128 / n = 0 := by rw [Nat.zero_mul, Nat.zero_div]
    have e4 : 0 * 2 ^ more / n = 0 := by rw [Nat.zero_mul, Nat.zero_div]
    rw [e1, e2, e3, e4]
    show single.read (single.nearest _ 0 _) = single.read (single.nearest _ 0 _)
    rw [read_nearest_zero single (by decide), read_nearest_zero single (by decide)]
  · have hb1 : 2 ^ (single.fractionBits + 1) ≤ m * 2 ^ more / n := big_quot m n more (by omega) hn0 (by omega)
    have hln : n.log2 < 24 := (Nat.log2_lt (by omega)).2 hn
    have hb2 : 2 ^ (single.fractionBits + 1) ≤ m * 2 ^ 128 / n := big_quot m n 128 (by omega) hn0 (by omega)
    have h := sticky_same single (by decide) m n (i - j) hn0 more 128 hb1 hb2
    have ez : (m * 2 ^ more % n != 0).toNat = if m * 2 ^ more % n = 0 then 0 else 1 := by
      by_cases hz : m * 2 ^ more % n = 0
      · rw [if_pos hz, hz]; rfl
      · rw [if_neg hz, show (m * 2 ^ more % n != 0) = true from by rw [bne_iff_ne]; exact hz]; rfl
    rw [nearest_eq, nearest_eq, ez, h]
    by_cases hz : m * 2 ^ 128 % n = 0
    · rw [hz]
      simp only [Nat.lt_irrefl, decide_false, Bool.false_eq_true, if_false, if_true]
      rw [Nat.add_zero, show i - j - ((128 : Nat) : Int) - 1 = i - j - 128 - 1 from rfl, rungOf_double single (by decide)]
    · rw [if_neg hz, decide_eq_true (by omega : 0 < m * 2 ^ 128 % n)]
      rfl

theorem ratio_any (d1 d2 : Datum) (h1 : Can d1) (h2 : Can d2) (w : World) : Calls Try.prog 90 #[frm, encD d1, encD d2] w (Ret w (encD (resD (d1.quotient 25 d2)))) := by
  have hinf : ∀ s : Bool, resD (some (.infinity s)) = .infinity s := fun s => read_inf single (by decide) s
  have hzero : ∀ s : Bool, resD (some (.number s 0 0)) = .number s 0 (-149) := fun s => read_nearest_zero single (by decide) s 0
  cases d1 with
  | nan s x =>
    obtain ⟨t0, t1, t2, t3, he⟩ := encD_form d2
    rw [he]
    have hr : Datum.quotient 25 (.nan s x) d2 = none := by cases d2 <;> rfl
    rw [hr]
    exact ratio_nan_left t0 t1 t2 t3 w
  | infinity s =>
    cases d2 with
    | nan t x => exact ratio_inf_nan s w
    | infinity t => exact ratio_inf_inf s t w
    | number t n p =>
      have hr : Datum.quotient 25 (.infinity s) (.number t n p) = some (.infinity (s ^^ t)) := rfl
      rw [hr, hinf, ← xor_ne]
      exact ratio_inf_num s t n p w
  | number s m p =>
    cases d2 with
    | nan t x => exact ratio_num_nan s m p w
    | infinity t =>
      have hr : Datum.quotient 25 (.number s m p) (.infinity t) = some (.number (s ^^ t) 0 0) := rfl
      rw [hr, hzero, ← xor_ne]
      exact ratio_num_inf s t m p w
    | number t n q =>
      obtain ⟨a1, a2, a3⟩ := h1
      obtain ⟨b1, b2, b3⟩ := h2
      cases n with
      | zero =>
        cases m with
        | zero => exact ratio_zero_zero s t p q w
        | succ m =>
          have hr : Datum.quotient 25 (.number s (m + 1) p) (.number t 0 q) = some (.infinity (s ^^ t)) := by simp [Datum.quotient]
          rw [hr, hinf, ← xor_ne]
          exact ratio_num_zero s t m p q w
      | succ n =>
        rw [quot_word s t m (n + 1) p q (by omega) b1]
        obtain ⟨Q, hQ⟩ : ∃ Q, m * 2 ^ 128 / (n + 1) = Q := ⟨_, rfl⟩
        obtain ⟨z, hz⟩ : ∃ z, decide (0 < m * 2 ^ 128 % (n + 1)) = z := ⟨_, rfl⟩
        rw [hQ, hz]
        cases z
        · rw [if_neg Bool.false_ne_true, if_neg Bool.false_ne_true]
          exact ratio_num_false s t m (n + 1) Q p q a1 b1 (by omega) a2 a3 b2 b3 hQ hz w
        · rw [if_pos rfl, if_pos rfl]
          exact ratio_num_true s t m (n + 1) Q p q a1 b1 (by omega) a2 a3 b2 b3 hQ hz w

theorem wordD_ratio (a b : Nat) : wordD (resD ((single.read a).quotient 25 (single.read b))) = ratioW a b := wordD_resD _ fun _ => quotient_notNaN

theorem Ratios_any (a b : Int) (a0 : 0 ≤ a) (a1 : a ≤ 4294967295) (b0 : 0 ≤ b) (b1 : b ≤ 4294967295) (w : World) :
    Calls Try.prog 69 #[.int .u32 a, .int .u32 b] w (Ret w (.int .u32 (ratioW a.toNat b.toNat : Nat))) := by
  have HW := Lib.hid (wordD_ratio a.toNat b.toNat)
  go_enter Try.func69, Try.ntmps69
  go_wp2_with fail
  refine (single_form _).mono ?_
  rintro e w1 ⟨rfl, hb1⟩
  go_wp2_with fail
  refine (take_any a a0 a1 _).mono ?_
  rintro e w2 ⟨rfl, hb2⟩
  go_wp2_with fail
  refine (take_any b b0 b1 _).mono ?_
  rintro e w3 ⟨rfl, hb3⟩
  go_wp2_with fail
  refine (ratio_any _ _ (can_read _) (can_read _) _).mono ?_
  rintro e w4 ⟨rfl, hb4⟩
  go_wp2_with fail
  refine (lay_any _ (can_resD _) _).mono ?_
  rintro e w5 ⟨rfl, hb5⟩
  rw [HW.out]
  go_wp2
  go_ret
  exact ⟨rfl, bs_step (bs_step (bs_step (bs_step hb1 hb2) hb3) hb4) hb5⟩
end Go.Proofs.Ytfgbjaejkfkmmaa
