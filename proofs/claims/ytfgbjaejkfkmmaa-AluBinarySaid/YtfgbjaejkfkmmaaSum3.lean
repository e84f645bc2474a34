/- Contracts of the reference's Sum, Sums and Rest, joined. -/
import Derived.Test.YtfgbjaejkfkmmaaSum2
import Derived.Test.YtfgbjaejkfkmmaaWords
namespace Go.Proofs.Ytfgbjaejkfkmmaa
open Go.RowKit Ieee

theorem sum_nums (s t : Bool) (m n : Nat) (i j : Int) (hm : m < 16777216) (hn : n < 16777216) (hi : -149 ≤ i) (hi2 : i ≤ 104) (hj : -149 ≤ j) (hj2 : j ≤ 104) (w : World) :
    Calls Try.prog 87 #[frm, val 3 s m i, val 3 t n j] w (Ret w (encD (resD ((Datum.number s m i).sum (.number t n j))))) := by
  have hst : t = s ∨ t = (!s) := by cases s <;> cases t <;> simp
  by_cases hij : j < i
  · have hp : j = min i j := by omega
    obtain ⟨X, hX⟩ : ∃ X, m * 2 ^ (i - j).toNat = X := ⟨_, rfl⟩
    obtain ⟨Y, hY⟩ : ∃ Y, n * 2 ^ (j - j).toNat = Y := ⟨_, rfl⟩
    have hY2 : n * 2 ^ (0 : Int).toNat = Y := by rw [← hY, Int.sub_self]
    rcases hst with rfl | rfl
    · rw [sum_same t m n X Y i j j hp hX hY]
      exact sum_lt_same t m n X Y i j hm hn hi hi2 hj hj2 hij hX hY2 w
    · rcases Nat.lt_trichotomy X Y with h | h | h
      · rw [sum_below s m n X Y i j j hp hX hY h]
        exact sum_lt_below s m n X Y i j hm hn hi hi2 hj hj2 hij hX hY2 h w
      · rw [sum_even s m n X Y i j j hp hX hY h]
        exact sum_lt_even s m n X Y i j hm hn hi hi2 hj hj2 hij hX hY2 h w
      · rw [sum_above s m n X Y i j j hp hX hY h]
        exact sum_lt_above s m n X Y i j hm hn hi hi2 hj hj2 hij hX hY2 h w
  · have hp : i = min i j := by omega
    obtain ⟨X, hX⟩ : ∃ X, m * 2 ^ (i - i).toNat = X := ⟨_, rfl⟩
    obtain ⟨Y, hY⟩ : ∃ Y, n * 2 ^ (j - i).toNat = Y := ⟨_, rfl⟩
    have hX2 : m * 2 ^ (0 : Int).toNat = X := by rw [← hX, Int.sub_self]
    rcases hst with rfl | rfl
    · rw [sum_same t m n X Y i j i hp hX hY]
      exact sum_ge_same t m n X Y i j hm hn hi hi2 hj hj2 hij hX2 hY w
    · rcases Nat.lt_trichotomy X Y with h | h | h
      · rw [sum_below s m n X Y i j i hp hX hY h]
        exact sum_ge_below s m n X Y i j hm hn hi hi2 hj hj2 hij hX2 hY h w
      · rw [sum_even s m n X Y i j i hp hX hY h]
        exact sum_ge_even s m n X Y i j hm hn hi hi2 hj hj2 hij hX2 hY h w
      · rw [sum_above s m n X Y i j i hp hX hY h]
        exact sum_ge_above s m n X Y i j hm hn hi hi2 hj hj2 hij hX2 hY h w

theorem sum_any (d1 d2 : Datum) (h1 : Can d1) (h2 : Can d2) (w : World) : Calls Try.prog 87 #[frm, encD d1, encD d2] w (Ret w (encD (resD (d1.sum d2)))) := by
  have hinf : ∀ s : Bool, resD (some (.infinity s)) = .infinity s := fun s => read_inf single (by decide) s
  cases d1 with
  | nan s x =>
    obtain ⟨t0, t1, t2, t3, he⟩ := encD_form d2
    rw [he]
    have hr : Datum.sum (.nan s x) d2 = none := by cases d2 <;> rfl
    rw [hr]
    exact sum_nan_left t0 t1 t2 t3 w
  | infinity s =>
    cases d2 with
    | nan t x => exact sum_inf_nan s w
    | infinity t =>
      by_cases hst : s = t
      · subst hst
        have hr : Datum.sum (.infinity s) (.infinity s) = some (.infinity s) := by simp [Datum.sum]
        rw [hr, hinf]
        exact sum_inf_same s w
      · obtain rfl : t = (!s) := by cases s <;> cases t <;> simp_all
        have hr : Datum.sum (.infinity s) (.infinity (!s)) = none := by simp [Datum.sum]
        rw [hr]
        exact sum_inf_other s w
    | number t n p =>
      have hr : Datum.sum (.infinity s) (.number t n p) = some (.infinity s) := rfl
      rw [hr, hinf]
      exact sum_inf_num s t n p w
  | number s m p =>
    cases d2 with
    | nan t x => exact sum_num_nan s m p w
    | infinity t =>
      have hr : Datum.sum (.number s m p) (.infinity t) = some (.infinity t) := rfl
      rw [hr, hinf]
      exact sum_num_inf s t m p w
    | number t n q =>
      obtain ⟨a1, a2, a3⟩ := h1
      obtain ⟨b1, b2, b3⟩ := h2
      exact sum_nums s t m n p q a1 b1 a2 a3 b2 b3 w

theorem wordD_sum (a b : Nat) : wordD (resD ((single.read a).sum (single.read b))) = sumW a b := wordD_resD _ fun _ => sum_notNaN
theorem wordD_rest (a b : Nat) : wordD (resD ((single.read a).sum (single.read b).opposite)) = restW a b := wordD_resD _ fun _ => sum_notNaN

theorem Sums_any (a b : Int) (a0 : 0 ≤ a) (a1 : a ≤ 4294967295) (b0 : 0 ≤ b) (b1 : b ≤ 4294967295) (w : World) :
    Calls Try.prog 66 #[.int .u32 a, .int .u32 b] w (Ret w (.int .u32 (sumW a.toNat b.toNat : Nat))) := by
  have HW := Lib.hid (wordD_sum a.toNat b.toNat)
  go_enter Try.func66, Try.ntmps66
  go_wp2_with fail
  refine (single_form _).mono ?_
  rintro e w1 ⟨rfl, hb1⟩
  go_wp2_with fail
  refine (take_any a a0 a1 _).mono ?_
  rintro e w2 ⟨rfl, hb2⟩
  go_wp2_with fail
  refine (take_any b b0 b1 _).mono ?_
  rintro e w3 ⟨rfl, hb3⟩
  go_wp2_with fail
  refine (sum_any _ _ (can_read _) (can_read _) _).mono ?_
  rintro e w4 ⟨rfl, hb4⟩
  go_wp2_with fail
  refine (lay_any _ (can_resD _) _).mono ?_
  rintro e w5 ⟨rfl, hb5⟩
  rw [HW.out]
  go_wp2
  go_ret
  exact ⟨rfl, bs_step (bs_step (bs_step (bs_step hb1 hb2) hb3) hb4) hb5⟩

theorem RefRest_any (a b : Int) (a0 : 0 ≤ a) (a1 : a ≤ 4294967295) (b0 : 0 ≤ b) (b1 : b ≤ 4294967295) (w : World) :
    Calls Try.prog 67 #[.int .u32 a, .int .u32 b] w (Ret w (.int .u32 (restW a.toNat b.toNat : Nat))) := by
  have HW := Lib.hid (wordD_rest a.toNat b.toNat)
  go_enter Try.func67, Try.ntmps67
  go_wp2_with fail
  refine (single_form _).mono ?_
  rintro e w1 ⟨rfl, hb1⟩
  go_wp2_with fail
  refine (take_any a a0 a1 _).mono ?_
  rintro e w2 ⟨rfl, hb2⟩
  go_wp2_with fail
  refine (take_any b b0 b1 _).mono ?_
  rintro e w3 ⟨rfl, hb3⟩
  go_wp2_with fail
  refine (flip_any _ _).mono ?_
  rintro e w6 ⟨rfl, hb6⟩
  go_wp2_with fail
  refine (sum_any _ _ (can_read _) (can_opposite _ (can_read _)) _).mono ?_
  rintro e w4 ⟨rfl, hb4⟩
  go_wp2_with fail
  refine (lay_any _ (can_resD _) _).mono ?_
  rintro e w5 ⟨rfl, hb5⟩
  rw [HW.out]
  go_wp2
  go_ret
  exact ⟨rfl, bs_step (bs_step (bs_step (bs_step (bs_step hb1 hb2) hb3) hb6) hb4) hb5⟩
end Go.Proofs.Ytfgbjaejkfkmmaa
