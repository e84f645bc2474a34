/- Contract of the program's Root. -/
import Derived.Test.YtllchfdddfmjbaaSingle
import Derived.Test.YtllchfdddfmjbaaRootQ
namespace Go.Proofs.Ytllchfdddfmjbaa
open Go.RowKit Ieee

theorem run_sqrt (x r : Nat) (h : double.sqrt x = some r) (w : World) : (callFunc 52 #[.float .f64 x]).run Try.prog w = .ok (.value (.float .f64 r)) w := by
  rw [run_callFunc_extern Try.func52 (by kernel_rfl) (by kernel_rfl) (by kernel_rfl) (e := Extern.MathSqrt.sqrt) (by kernel_rfl)]
  have h2 : Extern.MathSqrt.sqrt #[.float .f64 x] = (match double.sqrt x with | some r => pure (.float .f64 r) | none => do pure (.float .f64 (← choose (.nanBits .f64 x x)))) := rfl
  rw [h2, h]
  rfl

theorem Sqrt_some (x r : Nat) (h : double.sqrt x = some r) (w : World) : Calls Try.prog 46 #[.float .f64 x] w fun e w' => e = .returned (.float .f64 r) ∧ w = w' := by
  have hr := fun W => run_sqrt x r h W
  go_enter Try.func46, Try.ntmps46
  go_wp2
  go_ret
  exact ⟨rfl, rfl⟩

theorem Root_at (a : Int) (x y r : Nat) (w : World) (h1 : floatToFloatBits .f32 a.toNat .f64 = some x) (h2 : double.sqrt x = some y) (h3 : floatToFloatBits .f64 y .f32 = some r) :
    Calls Try.prog 23 #[.int .u32 a] w fun e w' => e = .returned (.int .u32 (clean r : Nat)) ∧ w = w' := by
  have hr1 := fun W => run_convert_float_float (P := Try.prog) (w := W) 54 61 .f32 .f64 a.toNat x rfl rfl h1
  have hr3 := fun W => run_convert_float_float (P := Try.prog) (w := W) 61 54 .f64 .f32 y r rfl rfl h3
  have HS := Lib.hid (fun W => Sqrt_some x y h2 W)
  clear h1 h2 h3
  go_enter Try.func23, Try.ntmps23
  go_wp2_with fail
  refine (number_any _ _).mono ?_
  rintro e w' ⟨rfl, rfl⟩
  go_wp2_with fail
  refine (HS.out _).mono ?_
  rintro e w' ⟨rfl, rfl⟩
  go_wp2_with fail
  refine (word_any _ _).mono ?_
  rintro e w' ⟨rfl, rfl⟩
  go_wp2
  go_ret
  exact ⟨rfl, rfl⟩

/-- The square root of a word. -/
def rootW (a : Nat) : Nat := (single.sqrt a).getD oneNaN

theorem run_sqrt_none (x : Nat) (h : double.sqrt x = none) (w : World) : (callFunc 52 #[.float .f64 x]).run Try.prog w = .ok (.value (.float .f64 (nanOf w .f64 x x))) w.drew := by
  rw [run_callFunc_extern Try.func52 (by kernel_rfl) (by kernel_rfl) (by kernel_rfl) (e := Extern.MathSqrt.sqrt) (by kernel_rfl)]
  have h2 : Extern.MathSqrt.sqrt #[.float .f64 x] = (match double.sqrt x with | some r => pure (.float .f64 r) | none => do pure (.float .f64 (← choose (.nanBits .f64 x x)))) := rfl
  rw [h2, h]
  rfl
/-- A float that is no number is handed back. -/
def GotNaN (w : World) (e : Ending) (w' : World) : Prop := ∃ y n, e = .returned (.float .f64 y) ∧ (double.read y).isNaN = true ∧ w' = w.drewN n
theorem Sqrt_none (x : Nat) (h : double.sqrt x = none) (w : World) : Calls Try.prog 46 #[.float .f64 x] w (GotNaN w) := by
  have hr := fun W => run_sqrt_none x h W
  go_enter Try.func46, Try.ntmps46
  go_wp2
  go_ret
  exact ⟨_, 1, rfl, nanOf_nan64 _ _ _, rfl⟩
theorem sqrt_nan (x : Nat) (h : (double.read x).isNaN = true) : double.sqrt x = none := by
  unfold Format.sqrt
  cases hr : double.read x with
  | nan s t => rfl
  | number s m p => rw [hr] at h; cases h
  | infinity s => rw [hr] at h; cases h

/-- No root: some NaN comes back, as the one NaN. -/
theorem Root_no (a : Int) (x : Nat) (w : World) (h1 : floatToFloatBits .f32 a.toNat .f64 = some x) (h2 : double.sqrt x = none) :
    Calls Try.prog 23 #[.int .u32 a] w (Got w (.int .u32 (oneNaN : Nat))) := by
  have hr1 := fun W => run_convert_float_float (P := Try.prog) (w := W) 54 61 .f32 .f64 a.toNat x rfl rfl h1
  have HS := Lib.hid (fun W => Sqrt_none x h2 W)
  clear h1 h2
  go_enter Try.func23, Try.ntmps23
  go_wp2_with fail
  refine (number_any _ _).mono ?_
  rintro e w' ⟨rfl, rfl⟩
  go_wp2_with fail
  refine (HS.out _).mono ?_
  rintro e w' ⟨y, n, rfl, hy, rfl⟩
  have hr2 := fun W => run_convert_nan (P := Try.prog) W 61 54 .f64 .f32 y rfl rfl (by decide) hy
  clear hy
  go_wp2_with fail
  refine (word_any _ _).mono ?_
  rintro e w' ⟨rfl, rfl⟩
  go_wp2
  go_ret
  refine ⟨ret_u32 ?_, n + 1, rfl⟩
  unfold clean
  rw [if_pos (nanTo_nan32 _ _)]
theorem Root_nan (a : Int) (w : World) (h1 : (single.read a.toNat).isNaN = true) :
    Calls Try.prog 23 #[.int .u32 a] w (Got w (.int .u32 (oneNaN : Nat))) := by
  have hr1 := fun W => run_convert_nan (P := Try.prog) W 54 61 .f32 .f64 a.toNat rfl rfl (by decide) h1
  have HS := Lib.hid (fun V W => Sqrt_none (nanTo V .f64 a.toNat) (sqrt_nan _ (nanTo_nan64 _ _)) W)
  clear h1
  go_enter Try.func23, Try.ntmps23
  go_wp2_with fail
  refine (number_any _ _).mono ?_
  rintro e w' ⟨rfl, rfl⟩
  go_wp2_with fail
  refine (HS.out _ _).mono ?_
  rintro e w' ⟨y, n, rfl, hy, rfl⟩
  have hr2 := fun W => run_convert_nan (P := Try.prog) W 61 54 .f64 .f32 y rfl rfl (by decide) hy
  clear hy
  go_wp2_with fail
  refine (word_any _ _).mono ?_
  rintro e w' ⟨rfl, rfl⟩
  go_wp2
  go_ret
  refine ⟨ret_u32 ?_, _, rfl⟩
  unfold clean
  rw [if_pos (nanTo_nan32 _ _)]

theorem sqrt_neg (f : Format) (m : Nat) (i : Int) (k : Nat) (hm : 0 < m) : ((Datum.number true m i).root k).map f.write = none := by
  unfold Datum.root
  simp only
  rw [if_neg (by omega), if_pos trivial]
  rfl

/-- The root of any word. -/
theorem Root_any (a : Nat) (ha : a ≤ 4294967295) (w : World) : Calls Try.prog 23 #[.int .u32 (a : Int)] w (Got w (.int .u32 (rootW a : Nat))) := by
  have hw := word_of single a (by rw [single_sign]; omega)
  have hn := isNaN_read single (by decide) a
  rcases Nat.lt_trichotomy (a % single.signWeight) single.infRung with h | h | h
  · by_cases h0 : a % single.signWeight = 0
    · -- a nought
      rw [h0] at hw
      generalize (a / single.signWeight % 2 == 1) = s at hw
      subst hw
      have e : rootW (single.word s 0) = clean (single.word s 0) := by cases s <;> decide +kernel
      rw [e]
      have h9 := Root_at ((single.word s 0 : Nat) : Int) (double.word s 0) (double.word s 0) (single.word s 0) w (by rw [Int.toNat_natCast]; cases s <;> decide +kernel) (by cases s <;> decide +kernel) (by cases s <;> decide +kernel)
      exact h9.mono fun _ _ ⟨he, hw⟩ => ⟨he, 0, hw.symm⟩
    · cases hs : (a / single.signWeight % 2 == 1) with
      | false =>
        rw [hs] at hw
        obtain ⟨R0, Ry, Rs, h1, h2, h3, h4, h5, -⟩ := root_thru (a % single.signWeight) h (by omega)
        rw [← hw] at h1 h4
        have e : rootW a = clean (single.word false Rs) := by
          unfold rootW
          rw [h4]
          unfold clean
          rw [isNaN_read single (by decide), word_mod single false Rs (by have := inf_lt_sign single; omega), if_neg (by rw [decide_eq_true_eq]; omega)]
          rfl
        rw [e]
        have h9 := Root_at (a : Int) (double.word false R0) (double.word false Ry) (single.word false Rs) w (by rw [Int.toNat_natCast]; exact h1) h2 h3
        exact h9.mono fun _ _ ⟨he, hw⟩ => ⟨he, 0, hw.symm⟩
      | true =>
        rw [hs] at hw
        obtain ⟨R, hR, hV, h1, -⟩ := wide_some true (a % single.signWeight) h
        rw [← hw] at h1
        obtain ⟨m, k, h2, h3, -⟩ := read_word double true R hR
        have hm : 0 < m := Nat.pos_of_ne_zero fun hm => by
          rw [hm, Nat.zero_mul] at h3
          have h8 := V_strict single (show 0 < a % single.signWeight by omega)
          rw [h3] at hV
          have h7 := Nat.mul_pos (show 0 < V single (a % single.signWeight) by omega) (Nat.two_pow_pos 925)
          omega
        have hq : double.sqrt (double.word true R) = none := by unfold Format.sqrt; rw [h2]; exact sqrt_neg _ _ _ _ hm
        have e : rootW a = oneNaN := by
          unfold rootW Format.sqrt
          obtain ⟨m', k', h5, h6, -⟩ := read_word single true (a % single.signWeight) h
          rw [← hw] at h5
          rw [h5, sqrt_neg _ _ _ _ (Nat.pos_of_ne_zero fun hm => by
            rw [hm, Nat.zero_mul] at h6
            have h8 := V_strict single (show 0 < a % single.signWeight by omega)
            omega)]
          rfl
        rw [e]
        exact Root_no (a : Int) _ w (by rw [Int.toNat_natCast]; exact h1) hq
  · rw [h] at hw
    generalize (a / single.signWeight % 2 == 1) = s at hw
    subst hw
    cases s
    · have e : rootW (single.word false single.infRung) = clean (single.word false single.infRung) := by decide +kernel
      rw [e]
      have h9 := Root_at ((single.word false single.infRung : Nat) : Int) (double.word false double.infRung) (double.word false double.infRung) (single.word false single.infRung) w (by rw [Int.toNat_natCast]; exact (wide_inf false).1) (by decide +kernel) (wide_inf false).2
      exact h9.mono fun _ _ ⟨he, hw⟩ => ⟨he, 0, hw.symm⟩
    · have e : rootW (single.word true single.infRung) = oneNaN := by decide +kernel
      rw [e]
      exact Root_no _ _ w (by rw [Int.toNat_natCast]; exact (wide_inf true).1) (by decide +kernel)
  · have h1 : (single.read a).isNaN = true := by rw [hn]; exact decide_eq_true h
    have e : rootW a = oneNaN := by
      unfold rootW Format.sqrt
      cases hr : single.read a with
      | nan s t => rfl
      | number s m p => rw [hr] at h1; cases h1
      | infinity s => rw [hr] at h1; cases h1
    rw [e]
    exact Root_nan _ w (by rw [Int.toNat_natCast]; exact h1)
theorem Root_is (a r : Nat) (ha : a ≤ 4294967295) (h : rootW a = r) (w : World) : Calls Try.prog 23 #[.int .u32 (a : Int)] w (Got w (.int .u32 (r : Nat))) := by subst h; exact Root_any a ha w
end Go.Proofs.Ytllchfdddfmjbaa
