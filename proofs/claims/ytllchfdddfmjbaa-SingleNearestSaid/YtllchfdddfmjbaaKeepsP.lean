/- Plain laws: what is made of two numbers keeps their order. -/
import Derived.Test.YtllchfdddfmjbaaVal
namespace Go.Proofs.Ytllchfdddfmjbaa
open Ieee

/-- x is not above y, or one is no number. -/
def NotAb (x y : Nat) : Prop := NoNum x ∨ NoNum y ∨ keyW x ≤ keyW y

theorem nan_num : NoNum 2143289344 := by unfold NoNum; decide
theorem split_word (a : Nat) : NoNum a ∨ a % 2147483648 = 2139095040 ∨ Fin32 a := by unfold NoNum Fin32; omega
theorem key_inf (a : Nat) (ha : a ≤ 4294967295) (h : a % 2147483648 = 2139095040) : keyW a = 2139095040 ∧ a = 2139095040 ∨ keyW a = -2139095040 ∧ a = 4286578688 := by
  unfold keyW
  by_cases hs : a < 2147483648
  · left; rw [if_pos hs, h]; exact ⟨rfl, by omega⟩
  · right; rw [if_neg hs, h]; exact ⟨rfl, by omega⟩
theorem fin_key (a : Nat) (h : Fin32 a) : -2139095040 < keyW a ∧ keyW a < 2139095040 := by
  unfold Fin32 at h
  unfold keyW
  split <;> omega

/-- The shape of all these laws. -/
theorem keep (f : Nat → Nat) (hfin : ∀ x y, x ≤ 4294967295 → y ≤ 4294967295 → Fin32 x → Fin32 y → keyW x ≤ keyW y → NotAb (f x) (f y))
    (hinf : ∀ x, x ≤ 4294967295 → x % 2147483648 = 2139095040 → NoNum (f x) ∨ keyW (f x) = keyW x) (hnan : ∀ x, x ≤ 4294967295 → NoNum x → NoNum (f x))
    (x y : Nat) (hx : x ≤ 4294967295) (hy : y ≤ 4294967295) (h : NotAb x y) : NotAb (f x) (f y) := by
  rcases split_word x with nx | ix | fx
  · exact .inl (hnan x hx nx)
  · rcases split_word y with ny | iy | fy
    · exact .inr (.inl (hnan y hy ny))
    · rcases hinf x hx ix with h1 | h1
      · exact .inl h1
      · rcases hinf y hy iy with h2 | h2
        · exact .inr (.inl h2)
        · rcases h with h | h | h
          · unfold NoNum at h; omega
          · unfold NoNum at h; omega
          · exact .inr (.inr (by omega))
    · rcases hinf x hx ix with h1 | h1
      · exact .inl h1
      · rcases h with h | h | h
        · unfold NoNum at h; omega
        · unfold NoNum at h; unfold Fin32 at fy; omega
        · have h2 := fin_key y fy
          rcases key_inf x hx ix with ⟨h3, -⟩ | ⟨h3, -⟩
          · omega
          · by_cases hn : NoNum (f y)
            · exact .inr (.inl hn)
            · have := key_bound (f y) hn
              exact .inr (.inr (by omega))
  · rcases split_word y with ny | iy | fy
    · exact .inr (.inl (hnan y hy ny))
    · rcases hinf y hy iy with h1 | h1
      · exact .inr (.inl h1)
      · rcases h with h | h | h
        · unfold NoNum at h; unfold Fin32 at fx; omega
        · unfold NoNum at h; omega
        · have h2 := fin_key x fx
          rcases key_inf y hy iy with ⟨h3, -⟩ | ⟨h3, -⟩
          · by_cases hn : NoNum (f x)
            · exact .inl hn
            · have := key_bound (f x) hn
              exact .inr (.inr (by omega))
          · omega
    · rcases h with h | h | h
      · unfold NoNum at h; unfold Fin32 at fx; omega
      · unfold NoNum at h; unfold Fin32 at fy; omega
      · exact hfin x y hx hy fx fy h

/-! ### Sums -/
theorem inf_word (s : Bool) : ((some (Datum.infinity s)).map single.write).getD oneNaN = single.word s 2139095040 := by
  show single.word s single.infRung = _
  rw [single_inf]
theorem none_word : ((none : Option Datum).map single.write).getD oneNaN = 2143289344 := rfl
theorem sum_inf_left (x c : Nat) (hx : x % 2147483648 = 2139095040) (hc : Fin32 c) : sumW x c = single.word (x / 2147483648 % 2 == 1) 2139095040 := by
  obtain ⟨n, l, h3, -⟩ := read_fin_word c hc
  unfold sumW Format.add
  rw [read_inf_word x hx, h3]
  generalize (x / 2147483648 % 2 == 1) = s
  rw [show Datum.sum (.infinity s) (.number (c / 2147483648 % 2 == 1) n (-149 + l)) = some (.infinity s) from rfl]
  exact inf_word s
theorem inf_word_key (x : Nat) (hx : x ≤ 4294967295) (h : x % 2147483648 = 2139095040) : keyW (single.word (x / 2147483648 % 2 == 1) 2139095040) = keyW x := by
  rw [(word_key _ 2139095040 (by omega)).2.2, key_form x hx, h]
theorem sum_inf_right (x c : Nat) (hc : c % 2147483648 = 2139095040) (hx : ¬ NoNum x) : NoNum (sumW x c) ∨ sumW x c = single.word (c / 2147483648 % 2 == 1) 2139095040 := by
  unfold sumW Format.add
  rw [read_inf_word c hc]
  generalize (c / 2147483648 % 2 == 1) = t
  rcases split_word x with h | h | h
  · exact absurd h hx
  · rw [read_inf_word x h]
    generalize (x / 2147483648 % 2 == 1) = s
    by_cases hst : s = t
    · right
      rw [show Datum.sum (.infinity s) (.infinity t) = some (.infinity s) from by simp only [Datum.sum]; rw [if_pos hst], inf_word, hst]
    · left
      rw [show Datum.sum (.infinity s) (.infinity t) = none from by simp only [Datum.sum]; rw [if_neg hst], none_word]
      exact nan_num
  · obtain ⟨n, l, h3, -⟩ := read_fin_word x h
    rw [h3]
    right
    rw [show Datum.sum (.number (x / 2147483648 % 2 == 1) n (-149 + l)) (.infinity t) = some (.infinity t) from rfl]
    exact inf_word t
theorem sum_nan (x c : Nat) (h : NoNum x ∨ NoNum c) : NoNum (sumW x c) := by rw [(none_all x c h).1]; exact nan_num

theorem sum_keep (x y c : Nat) (hx : x ≤ 4294967295) (hy : y ≤ 4294967295) (h : NotAb x y) : NotAb (sumW x c) (sumW y c) := by
  rcases split_word c with nc | ic | fc
  · exact .inl (sum_nan x c (.inr nc))
  · by_cases nx : NoNum x
    · exact .inl (sum_nan x c (.inl nx))
    by_cases ny : NoNum y
    · exact .inr (.inl (sum_nan y c (.inl ny)))
    rcases sum_inf_right x c ic nx with h1 | h1
    · exact .inl h1
    rcases sum_inf_right y c ic ny with h2 | h2
    · exact .inr (.inl h2)
    · rw [h1, h2]; exact .inr (.inr (Int.le_refl _))
  · refine keep (fun x => sumW x c) (fun x y hx hy fx fy hk => ?_) (fun x hx ix => .inr ?_) (fun x hx nx => sum_nan x c (.inl nx)) x y hx hy h
    · right; right
      show keyW (sumW x c) ≤ keyW (sumW y c)
      rw [(sum_key x c fx fc).2, (sum_key y c fy fc).2]
      have := sval_mono x y hx hy hk
      exact keyR_mono _ (by omega)
    · show keyW (sumW x c) = keyW x
      rw [sum_inf_left x c ix fc, inf_word_key x hx ix]

/-! ### Products with a number above nought -/
theorem product_nan (x c : Nat) (h : NoNum x ∨ NoNum c) : NoNum (productW x c) := by rw [(none_all x c h).2.2.1]; exact nan_num
theorem product_inf_left (x c : Nat) (hx : x % 2147483648 = 2139095040) (hc : Fin32 c) (hp : 0 < keyW c) (hcl : c ≤ 4294967295) : productW x c = single.word (x / 2147483648 % 2 == 1) 2139095040 := by
  obtain ⟨n, l, h3, h4⟩ := read_fin_word c hc
  have hpos := sval_pos c hcl hp
  have hs : (c / 2147483648 % 2 == 1) = false := by rw [sval_neg c (by omega)]; exact decide_eq_false (by omega)
  have hn : n ≠ 0 := fun h => by
    rw [h, Nat.zero_mul] at h4
    have := sval_abs c
    omega
  unfold productW Format.mul
  rw [read_inf_word x hx, h3, hs]
  generalize (x / 2147483648 % 2 == 1) = s
  rw [show Datum.product (.infinity s) (.number false n (-149 + l)) = some (.infinity (s ^^ false)) from by simp only [Datum.product]; rw [if_neg hn], inf_word, Bool.xor_false]
theorem product_inf_right (x c : Nat) (hxl : x ≤ 4294967295) (hc : c = 2139095040) (hx : ¬ NoNum x) : NoNum (productW x c) ∨ (keyW (productW x c) = 2139095040 ∧ 0 < keyW x) ∨ (keyW (productW x c) = -2139095040 ∧ keyW x < 0) := by
  subst hc
  have k1 : keyW (single.word false 2139095040) = 2139095040 := (word_key false 2139095040 (by omega)).2.2
  have k2 : keyW (single.word true 2139095040) = -2139095040 := (word_key true 2139095040 (by omega)).2.2
  unfold productW Format.mul
  rw [read_inf_word 2139095040 (by decide), show (2139095040 / 2147483648 % 2 == 1) = false from by decide]
  have hkf := key_form x hxl
  rcases split_word x with h | h | h
  · exact absurd h hx
  · rw [read_inf_word x h]
    rw [h] at hkf
    right
    generalize (x / 2147483648 % 2 == 1) = s at *
    rw [show Datum.product (.infinity s) (.infinity false) = some (.infinity (s ^^ false)) from rfl, inf_word, Bool.xor_false]
    cases s
    · left; exact ⟨k1, by rw [hkf]; decide⟩
    · right; exact ⟨k2, by rw [hkf]; decide⟩
  · obtain ⟨n, l, h3, h4⟩ := read_fin_word x h
    rw [h3]
    by_cases hn : n = 0
    · left
      rw [show Datum.product (.number (x / 2147483648 % 2 == 1) n (-149 + l)) (.infinity false) = none from by simp only [Datum.product]; rw [if_pos hn], none_word]
      exact nan_num
    · right
      have hr : 0 < x % 2147483648 := by
        refine Nat.pos_of_ne_zero fun hz => ?_
        rw [hz, V_zero] at h4
        have := Nat.mul_pos (show 0 < n by omega) (Nat.two_pow_pos l)
        omega
      generalize (x / 2147483648 % 2 == 1) = s at *
      rw [show Datum.product (.number s n (-149 + l)) (.infinity false) = some (.infinity (false ^^ s)) from by simp only [Datum.product]; rw [if_neg hn], inf_word, Bool.false_xor]
      cases s
      · left; exact ⟨k1, by rw [hkf, if_neg Bool.false_ne_true]; omega⟩
      · right; exact ⟨k2, by rw [hkf, if_pos rfl]; omega⟩

theorem product_keep (x y c : Nat) (hx : x ≤ 4294967295) (hy : y ≤ 4294967295) (hc : c ≤ 4294967295) (nc : ¬ NoNum c) (hp : 0 < keyW c) (h : NotAb x y) : NotAb (productW x c) (productW y c) := by
  rcases split_word c with nc' | ic | fc
  · exact absurd nc' nc
  · by_cases nx : NoNum x
    · exact .inl (product_nan x c (.inl nx))
    by_cases ny : NoNum y
    · exact .inr (.inl (product_nan y c (.inl ny)))
    have hcv : c = 2139095040 := by
      rcases key_inf c hc ic with ⟨-, h⟩ | ⟨h, -⟩
      · exact h
      · omega
    have hk : keyW x ≤ keyW y := by
      rcases h with h | h | h
      · exact absurd h nx
      · exact absurd h ny
      · exact h
    rcases product_inf_right x c hx hcv nx with h1 | ⟨h1, h1'⟩ | ⟨h1, h1'⟩
    · exact .inl h1
    · rcases product_inf_right y c hy hcv ny with h2 | ⟨h2, h2'⟩ | ⟨h2, h2'⟩
      · exact .inr (.inl h2)
      · exact .inr (.inr (by omega))
      · omega
    · rcases product_inf_right y c hy hcv ny with h2 | ⟨h2, h2'⟩ | ⟨h2, h2'⟩
      · exact .inr (.inl h2)
      · exact .inr (.inr (by omega))
      · exact .inr (.inr (by omega))
  · refine keep (fun x => productW x c) (fun x y hx hy fx fy hk => ?_) (fun x hx ix => .inr ?_) (fun x hx nx => product_nan x c (.inl nx)) x y hx hy h
    · right; right
      show keyW (productW x c) ≤ keyW (productW y c)
      rw [(product_key x c fx fc).2, (product_key y c fy fc).2]
      have h1 := sval_mono x y hx hy hk
      have h2 := sval_pos c hc hp
      exact keyR_mono _ (Int.mul_le_mul_of_nonneg_right h1 (by omega))
    · show keyW (productW x c) = keyW x
      rw [product_inf_left x c ix fc hp hc, inf_word_key x hx ix]

/-! ### Roots -/
theorem uptoS_mono (N N' : Nat) (h : N ≤ N') (i : Int) (r : Nat) (hu : UptoS single N' i r) : UptoS single N i r := by
  unfold UptoS at *
  have h1 : N * 2 ^ (i - 2 * single.leastPlace).toNat ≤ N' * 2 ^ (i - 2 * single.leastPlace).toNat := Nat.mul_le_mul_right _ h
  generalize N * 2 ^ (i - 2 * single.leastPlace).toNat = A at *
  generalize N' * 2 ^ (i - 2 * single.leastPlace).toNat = B at *
  omega
theorem root_fin (a : Nat) (h : Fin32 a) (hs : (a / 2147483648 % 2 == 1) = false) (hp : 0 < a % 2147483648) :
    ∃ R, rootW a = single.word false R ∧ R ≤ 2139095040 ∧ ∀ r, r < 2139095040 → (R ≤ r ↔ UptoS single (V single (a % 2147483648)) (-149) r) := by
  obtain ⟨m, k, h1, h2, h3, -⟩ := read_fin single a (by rw [single_sign, single_inf]; exact h)
  rw [single_sign] at h1 h2
  rw [s_l, hs] at h1
  have hm : 0 < m := Nat.pos_of_ne_zero fun hm => by
    rw [hm, Nat.zero_mul] at h2
    have := V_pos hp
    omega
  obtain ⟨R, e1, e2, e3⟩ := sqrt_rung single (by decide) m (-149 + k) hm h3
  rw [single_inf] at e2 e3
  refine ⟨R, ?_, e2, fun r hr => ?_⟩
  · unfold rootW Format.sqrt
    rw [h1, e1]
    rfl
  · rw [e3 r hr, h2, ← uptoS_scale single m (-149 + k) r k, show -149 + (k : Int) - k = -149 from by omega]
theorem root_minus (a : Nat) (h : Fin32 a) (hs : (a / 2147483648 % 2 == 1) = true) (hp : 0 < a % 2147483648) : NoNum (rootW a) := by
  obtain ⟨m, k, h1, h2, h3, -⟩ := read_fin single a (by rw [single_sign, single_inf]; exact h)
  rw [single_sign] at h1 h2
  rw [hs] at h1
  have hm : 0 < m := Nat.pos_of_ne_zero fun hm => by
    rw [hm, Nat.zero_mul] at h2
    have := V_pos hp
    omega
  have e : rootW a = 2143289344 := by
    unfold rootW Format.sqrt
    rw [h1, sqrt_neg _ _ _ _ hm]
    rfl
  rw [e]; exact nan_num
theorem root_zero (a : Nat) (ha : a ≤ 4294967295) (hp : a % 2147483648 = 0) : keyW (rootW a) = 0 := by
  have : a = 0 ∨ a = 2147483648 := by omega
  rcases this with rfl | rfl <;> decide +kernel
theorem root_nan (a : Nat) (h : NoNum a) : NoNum (rootW a) := by
  have h1 := (noNum_iff a).1 h
  have e : rootW a = 2143289344 := by
    unfold rootW Format.sqrt
    cases hr : single.read a with
    | nan s t => rfl
    | number s m p => rw [hr] at h1; cases h1
    | infinity s => rw [hr] at h1; cases h1
  rw [e]; exact nan_num

theorem root_keep (x y : Nat) (hx : x ≤ 4294967295) (hy : y ≤ 4294967295) (h : NotAb x y) : NotAb (rootW x) (rootW y) := by
  refine keep rootW (fun x y hx hy fx fy hk => ?_) (fun x hx ix => ?_) (fun x hx nx => root_nan x nx) x y hx hy h
  · by_cases zx : x % 2147483648 = 0
    · have k1 := root_zero x hx zx
      by_cases zy : y % 2147483648 = 0
      · have k2 := root_zero y hy zy
        exact .inr (.inr (by omega))
      · cases hs : (y / 2147483648 % 2 == 1) with
        | true => exact .inr (.inl (root_minus y fy hs (by omega)))
        | false =>
          obtain ⟨R, e1, e2, -⟩ := root_fin y fy hs (by omega)
          right; right
          rw [e1, (word_key false R e2).2.2, if_neg Bool.false_ne_true]
          omega
    · cases hs : (x / 2147483648 % 2 == 1) with
      | true => exact .inl (root_minus x fx hs (by omega))
      | false =>
        have kx := key_form x hx
        rw [hs, if_neg Bool.false_ne_true] at kx
        have ky := key_form y hy
        cases ht : (y / 2147483648 % 2 == 1) with
        | true => rw [ht, if_pos rfl] at ky; omega
        | false =>
          rw [ht, if_neg Bool.false_ne_true] at ky
          have hle : x % 2147483648 ≤ y % 2147483648 := by omega
          obtain ⟨R, e1, e2, e3⟩ := root_fin x fx hs (by omega)
          obtain ⟨Q, f1, f2, f3⟩ := root_fin y fy ht (by omega)
          right; right
          rw [e1, f1, (word_key false R e2).2.2, (word_key false Q f2).2.2, if_neg Bool.false_ne_true, if_neg Bool.false_ne_true]
          refine Int.ofNat_le.2 ?_
          by_cases hQ : Q < 2139095040
          · exact (e3 Q hQ).2 (uptoS_mono _ _ (V_mono single hle) _ _ ((f3 Q hQ).1 (Nat.le_refl _)))
          · omega
  · rcases key_inf x hx ix with ⟨-, rfl⟩ | ⟨-, rfl⟩
    · right; decide +kernel
    · left; rw [show rootW 4286578688 = 2143289344 from by decide +kernel]; exact nan_num

/-! ### Whole numbers -/
theorem of_keep (n m : Int) (h : n ≤ m) : ¬ NoNum (ofW n) ∧ ¬ NoNum (ofW m) ∧ keyW (ofW n) ≤ keyW (ofW m) := by
  have key : ∀ n : Int, ¬ NoNum (ofW n) ∧ keyW (ofW n) = keyR 0 n := fun n => by
    unfold ofW
    rw [nearest_eq, clean_word _ _ (rung_inf _ _), ← nearest_eq]
    exact (near_key _ _ 0 n rfl (fun _ => rfl)).2
  obtain ⟨a1, a2⟩ := key n
  obtain ⟨b1, b2⟩ := key m
  refine ⟨a1, b1, ?_⟩
  rw [a2, b2]
  exact keyR_mono 0 h
theorem one_keep (x y : Nat) (h : NotAb x y) : NotAb (oneW x) (oneW y) := by
  have hn : ∀ x, NoNum x → NoNum (oneW x) := fun x h => by unfold oneW; rw [if_pos (show 2139095040 < x % 2147483648 from h)]; exact nan_num
  have hs : ∀ x, ¬ NoNum x → oneW x = x := fun x h => by unfold oneW; rw [if_neg (show ¬ 2139095040 < x % 2147483648 from h)]
  by_cases hx : NoNum x
  · exact .inl (hn x hx)
  by_cases hy : NoNum y
  · exact .inr (.inl (hn y hy))
  rw [hs x hx, hs y hy]; exact h
end Go.Proofs.Ytllchfdddfmjbaa
