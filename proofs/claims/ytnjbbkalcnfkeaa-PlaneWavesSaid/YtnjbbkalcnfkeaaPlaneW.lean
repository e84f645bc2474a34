/- Contracts of package plane's Of, Bits, Far, Near, and of the law's canon. -/
import Derived.Test.YtnjbbkalcnfkeaaExact
import Derived.Test.YtnjbbkalcnfkeaaFloat
import Derived.Test.YtnjbbkalcnfkeaaBel
import Derived.Lib.Hide
import Derived.Outline
import Derived.Laws.Cover3
namespace Go.Proofs.Ytnjbbkalcnfkeaa
open Go.RowKit Ieee

theorem pword_any (v : Nat) (w : World) : Calls Try.prog 33 #[.float .f32 v] w fun e w' => e = .returned (.int .u32 (clean v : Nat)) ∧ w = w' := by
  have ho := order_self single v
  by_cases h : (single.read v).isNaN = true
  · rw [if_pos h] at ho
    have hc : clean v = 2143289344 := by unfold clean; rw [if_pos h]; rfl
    have HC := Lib.hid hc
    clear hc
    have hx : (FloatKind.f32.format.order v v != some .eq) = true := by rw [show FloatKind.f32.format = single from rfl, ho]; rfl
    clear ho h
    go_enter Try.func33, Try.ntmps33
    go_wp2
    go_ret
    exact ⟨by rw [HC.out]; rfl, rfl⟩
  · rw [if_neg h] at ho
    have hc : clean v = v := by unfold clean; rw [if_neg h]
    have HC := Lib.hid hc
    clear hc
    have hx : (FloatKind.f32.format.order v v != some .eq) = false := by rw [show FloatKind.f32.format = single from rfl, ho]; rfl
    clear ho h
    go_enter Try.func33, Try.ntmps33
    go_wp2
    go_ret
    exact ⟨by rw [HC.out]; rfl, rfl⟩

theorem Of_pt (a b : Nat) (w : World) : Calls Try.prog 8 #[.int .u32 (a : Int), .int .u32 (b : Int)] w fun e w' => e = .returned (.complex .f32 a b) ∧ w = w' := by
  go_enter Try.func8, Try.ntmps8
  go_wp2
  go_ret
  exact ⟨rfl, rfl⟩

theorem Bits_pt (a b : Nat) (w : World) : Calls Try.prog 9 #[.complex .f32 a b] w fun e w' => e = .returned (.tuple #[.int .u32 (clean a : Nat), .int .u32 (clean b : Nat)]) ∧ w = w' := by
  go_enter Try.func9, Try.ntmps9
  go_wp2_with fail
  refine (pword_any _ _).mono ?_
  rintro e w' ⟨rfl, rfl⟩
  go_wp2_with fail
  refine (pword_any _ _).mono ?_
  rintro e w' ⟨rfl, rfl⟩
  go_wp2
  go_ret2
  exact ⟨rfl, rfl⟩

/-- x is what a becomes as a binary64. -/
def IsWide (a x : Nat) : Prop := ((single.read a).isNaN = true ∧ (double.read x).isNaN = true) ∨ floatToFloatBits .f32 a .f64 = some x
def IsNarrow (x a : Nat) : Prop := ((double.read x).isNaN = true ∧ (single.read a).isNaN = true) ∨ floatToFloatBits .f64 x .f32 = some a

/-- A conversion, drawn or not. -/
theorem conv_wide (a : Nat) (h : (single.read a).isNaN = true ∨ ∃ x, floatToFloatBits .f32 a .f64 = some x) :
    (∀ W : World, (convert 70 33 (.float .f32 a)).run Try.prog W = .ok (.float .f64 (nanTo W .f64 a)) W.drew) ∧ (single.read a).isNaN = true ∨
    ∃ x, (∀ W : World, (convert 70 33 (.float .f32 a)).run Try.prog W = .ok (.float .f64 x) W) ∧ floatToFloatBits .f32 a .f64 = some x := by
  rcases h with h | ⟨x, h⟩
  · exact .inl ⟨fun W => run_convert_nan (P := Try.prog) W 70 33 .f32 .f64 a rfl rfl (by decide) h, h⟩
  · exact .inr ⟨x, fun W => run_convert_float_float (P := Try.prog) (w := W) 70 33 .f32 .f64 a x rfl rfl h, h⟩
theorem conv_narrow (a : Nat) (h : (double.read a).isNaN = true ∨ ∃ x, floatToFloatBits .f64 a .f32 = some x) :
    (∀ W : World, (convert 33 70 (.float .f64 a)).run Try.prog W = .ok (.float .f32 (nanTo W .f32 a)) W.drew) ∧ (double.read a).isNaN = true ∨
    ∃ x, (∀ W : World, (convert 33 70 (.float .f64 a)).run Try.prog W = .ok (.float .f32 x) W) ∧ floatToFloatBits .f64 a .f32 = some x := by
  rcases h with h | ⟨x, h⟩
  · exact .inl ⟨fun W => run_convert_nan (P := Try.prog) W 33 70 .f64 .f32 a rfl rfl (by decide) h, h⟩
  · exact .inr ⟨x, fun W => run_convert_float_float (P := Try.prog) (w := W) 33 70 .f64 .f32 a x rfl rfl h, h⟩

/-- A point of wide parts is handed back. -/
def RetWide (a b : Nat) (w : World) (e : Ending) (w' : World) : Prop := ∃ x y, e = .returned (.complex .f64 x y) ∧ IsWide a x ∧ IsWide b y ∧ ∃ n, w' = w.drewN n
def RetNarrow (a b : Nat) (w : World) (e : Ending) (w' : World) : Prop := ∃ x y, e = .returned (.complex .f32 x y) ∧ IsNarrow a x ∧ IsNarrow b y ∧ ∃ n, w' = w.drewN n

theorem Far_pt (a b : Nat) (ha : (single.read a).isNaN = true ∨ ∃ x, floatToFloatBits .f32 a .f64 = some x) (hb : (single.read b).isNaN = true ∨ ∃ x, floatToFloatBits .f32 b .f64 = some x) (w : World) :
    Calls Try.prog 11 #[.complex .f32 a b] w (RetWide a b w) := by
  rcases conv_wide a ha with ⟨h1, n1⟩ | ⟨x, h1, n1⟩ <;> rcases conv_wide b hb with ⟨h2, n2⟩ | ⟨y, h2, n2⟩
  all_goals
    have N1 := Lib.hid n1
    have N2 := Lib.hid n2
    clear n1 n2 ha hb
    go_enter Try.func11, Try.ntmps11
    go_wp2
    go_ret
  · exact ⟨_, _, rfl, .inl ⟨N1.out, nanTo_nan64 _ _⟩, .inl ⟨N2.out, nanTo_nan64 _ _⟩, 2, rfl⟩
  · exact ⟨_, _, rfl, .inl ⟨N1.out, nanTo_nan64 _ _⟩, .inr N2.out, 1, rfl⟩
  · exact ⟨_, _, rfl, .inr N1.out, .inl ⟨N2.out, nanTo_nan64 _ _⟩, 1, rfl⟩
  · exact ⟨_, _, rfl, .inr N1.out, .inr N2.out, 0, rfl⟩
theorem Near_pt (a b : Nat) (ha : (double.read a).isNaN = true ∨ ∃ x, floatToFloatBits .f64 a .f32 = some x) (hb : (double.read b).isNaN = true ∨ ∃ x, floatToFloatBits .f64 b .f32 = some x) (w : World) :
    Calls Try.prog 10 #[.complex .f64 a b] w (RetNarrow a b w) := by
  rcases conv_narrow a ha with ⟨h1, n1⟩ | ⟨x, h1, n1⟩ <;> rcases conv_narrow b hb with ⟨h2, n2⟩ | ⟨y, h2, n2⟩
  all_goals
    have N1 := Lib.hid n1
    have N2 := Lib.hid n2
    clear n1 n2 ha hb
    go_enter Try.func10, Try.ntmps10
    go_wp2
    go_ret
  · exact ⟨_, _, rfl, .inl ⟨N1.out, nanTo_nan32 _ _⟩, .inl ⟨N2.out, nanTo_nan32 _ _⟩, 2, rfl⟩
  · exact ⟨_, _, rfl, .inl ⟨N1.out, nanTo_nan32 _ _⟩, .inr N2.out, 1, rfl⟩
  · exact ⟨_, _, rfl, .inr N1.out, .inl ⟨N2.out, nanTo_nan32 _ _⟩, 1, rfl⟩
  · exact ⟨_, _, rfl, .inr N1.out, .inr N2.out, 0, rfl⟩

/-! ### The plain law -/
theorem wide_total (a : Nat) (ha : a ≤ 4294967295) : (single.read a).isNaN = true ∨ ∃ x, floatToFloatBits .f32 a .f64 = some x ∧ floatToFloatBits .f64 x .f32 = some a := by
  have hw := word_of single a (by rw [single_sign]; omega)
  rw [isNaN_read single (by decide)]
  rcases Nat.lt_trichotomy (a % single.signWeight) single.infRung with h | h | h
  · right
    obtain ⟨R, -, -, h1, h2⟩ := wide_some (a / single.signWeight % 2 == 1) (a % single.signWeight) h
    rw [← hw] at h1 h2
    exact ⟨_, h1, h2⟩
  · right
    have h1 := wide_inf (a / single.signWeight % 2 == 1)
    rw [← h, ← hw] at h1
    exact ⟨_, h1.1, h1.2⟩
  · left; exact decide_eq_true h
theorem bits_nan {s d : FloatKind} (hne : s ≠ d) {a x : Nat} (h : floatToFloatBits s a d = some x) : (s.format.read a).isNaN = false := by
  unfold floatToFloatBits at h
  rw [if_neg hne] at h
  cases hr : s.decode a with
  | nan t f => rw [hr] at h; cases h
  | number t m p => rw [show s.format.read a = _ from hr]; rfl
  | infinity t => rw [show s.format.read a = _ from hr]; rfl
theorem there_back (a x p : Nat) (ha : a ≤ 4294967295) (h1 : IsWide a x) (h2 : IsNarrow x p) : clean p = clean a := by
  rcases wide_total a ha with hn | ⟨y, hy1, hy2⟩
  · have hx : (double.read x).isNaN = true := by
      rcases h1 with h | h
      · exact h.2
      · have := bits_nan (by decide) h; rw [show FloatKind.f32.format.read a = single.read a from rfl, hn] at this; cases this
    have hp : (single.read p).isNaN = true := by
      rcases h2 with h | h
      · exact h.2
      · have := bits_nan (by decide) h; rw [show FloatKind.f64.format.read x = double.read x from rfl, hx] at this; cases this
    unfold clean
    rw [if_pos hn, if_pos hp]
  · have hx : y = x := by
      rcases h1 with h | h
      · have := bits_nan (by decide) hy1; rw [show FloatKind.f32.format.read a = single.read a from rfl, h.1] at this; cases this
      · rw [hy1] at h; injection h
    subst hx
    have hp : a = p := by
      rcases h2 with h | h
      · have := bits_nan (by decide) hy2; rw [show FloatKind.f64.format.read y = double.read y from rfl, h.1] at this; cases this
      · rw [hy2] at h; injection h
    rw [hp]
theorem narrow_can (a x : Nat) (ha : a ≤ 4294967295) (h1 : IsWide a x) : (double.read x).isNaN = true ∨ ∃ y, floatToFloatBits .f64 x .f32 = some y := by
  rcases h1 with h | h
  · exact .inl h.2
  · rcases wide_total a ha with hn | ⟨y, hy1, hy2⟩
    · have := bits_nan (by decide) h; rw [show FloatKind.f32.format.read a = single.read a from rfl, hn] at this; cases this
    · rw [hy1] at h; injection h with h; subst h; exact .inr ⟨_, hy2⟩

theorem canon_any (a : Nat) (ha : a ≤ 4294967295) (w : World) : Calls Try.prog 12 #[.int .u32 (a : Int)] w fun e w' => e = .returned (.int .u32 (clean a : Nat)) ∧ w = w' := by
  have hn := isNaN_read single (by decide) a
  rw [single_inf, single_sign] at hn
  obtain ⟨r, hr, hr2⟩ : ∃ r : Nat, (a : Int) % 2147483648 = (r : Int) ∧ a % 2147483648 = r := ⟨a % 2147483648, by omega, rfl⟩
  by_cases h : 2139095040 < r
  · have hc : clean a = 2143289344 := by unfold clean; rw [hn, hr2, if_pos (decide_eq_true h)]; rfl
    have HC := Lib.hid hc
    have ht : decide ((2139095040 : Int) < (r : Int)) = true := decide_eq_true (by omega)
    clear hc hn h hr2
    go_enter Try.func12, Try.ntmps12
    go_wp2
    go_ret
    exact ⟨by rw [HC.out]; rfl, rfl⟩
  · have hc : clean a = a := by unfold clean; rw [hn, hr2, if_neg (by rw [decide_eq_true_eq]; exact h)]
    have HC := Lib.hid hc
    have ht : decide ((2139095040 : Int) < (r : Int)) = false := decide_eq_false (by omega)
    clear hc hn h hr2
    go_enter Try.func12, Try.ntmps12
    go_wp2
    go_ret
    exact ⟨by rw [HC.out]; rfl, rfl⟩
theorem ret_same {v u : Value} (h : v = u) : Ending.returned v = .returned u := by rw [h]
end Go.Proofs.Ytnjbbkalcnfkeaa
