/- Floats: what an operation gives, an invalid one too (some NaN, drawn); the functions without bodies that read and lay bits. -/
import Derived.Test.YtnjbbkalcnfkeaaProg
import Derived.Test.YtnjbbkalcnfkeaaNum
import Derived.WalkKit
import Derived.WalkLawsBesides
import Derived.Deep.Draws
import Derived.Laws.NewFold
namespace Go.Proofs.Ytnjbbkalcnfkeaa
open Go.RowKit Ieee

/-- A call that hands back v and only draws. -/
def Got (w : World) (v : Value) (e : Ending) (w' : World) : Prop := e = .returned v ∧ ∃ n, w' = w.drewN n

/-- The bits that an invalid operation gives. -/
def nanOf (w : World) (k : FloatKind) (x y : Nat) : Nat := (Question.nanBits k x y).cut (w.tape w.drawn (.nanBits k x y))
def nanTo (w : World) (k : FloatKind) (x : Nat) : Nat := (Question.nanConv k x).cut (w.tape w.drawn (.nanConv k x))

section
variable {P : Program} (w : World)
theorem run_float_invalid (op : BinOp) (t : TypeId) (k : FloatKind) (x y : Nat) (hop : op = .add ∨ op = .sub ∨ op = .mul ∨ op = .quo) (h : floatBits op k x y = none) :
    (binOp op t (.float k x) (.float k y)).run P w = .ok (.float k (nanOf w k x y)) w.drew := by
  unfold floatBits at h
  rcases hop with rfl | rfl | rfl | rfl <;> simp only at h <;> simp [binOp, Op.floatArith, h, nanOf, Question.forced]
theorem run_convert_nan (src dst : TypeId) (s k : FloatKind) (b : Nat) (hs : (P.underlying src).isSome = true) (hd : P.underlying dst = some (.float k)) (hne : s ≠ k) (h : (s.format.read b).isNaN = true) :
    (convert src dst (.float s b)).run P w = .ok (.float k (nanTo w k b)) w.drew := by
  obtain ⟨u, hs'⟩ := Option.isSome_iff_exists.1 hs
  cases hr : s.format.read b with
  | number _ _ _ => rw [hr] at h; simp [Datum.isNaN] at h
  | infinity _ => rw [hr] at h; simp [Datum.isNaN] at h
  | nan sg fr =>
    cases u <;> simp [convert, run_underlying hs', run_underlying hd, Conv.floatToFloat, hne, FloatKind.decode, hr, nanTo, Question.forced]
end

theorem nan_lt32 (w : World) (x y : Nat) : nanOf w .f32 x y < 4294967296 := by
  unfold nanOf Question.cut
  simp only
  omega
theorem nan_lt64 (w : World) (x y : Nat) : nanOf w .f64 x y < 18446744073709551616 := by
  unfold nanOf Question.cut
  simp only
  omega
theorem nanTo_lt32 (w : World) (x : Nat) : nanTo w .f32 x < 4294967296 := by
  unfold nanTo Question.cut
  simp only
  omega
theorem nanTo_lt64 (w : World) (x : Nat) : nanTo w .f64 x < 18446744073709551616 := by
  unfold nanTo Question.cut
  simp only
  omega

theorem isNaN_read (f : Format) (hf : 2 ≤ f.exponentBits) (a : Nat) : (f.read a).isNaN = decide (f.infRung < a % f.signWeight) := by
  have h1 := inf_lt_sign f
  have h2 := infRung_add f
  unfold Format.read
  dsimp only
  by_cases h3 : a % f.signWeight < f.binade
  · rw [if_pos h3]
    have := binade_le_inf f hf
    simp [Datum.isNaN]; omega
  · rw [if_neg h3]
    by_cases h4 : a % f.signWeight < f.infRung
    · rw [if_pos h4]; simp [Datum.isNaN]; omega
    · rw [if_neg h4]
      by_cases h5 : a % f.signWeight = f.infRung
      · rw [if_pos h5]; simp [Datum.isNaN]; omega
      · rw [if_neg h5]; simp [Datum.isNaN]; omega

theorem single_inf : single.infRung = 2139095040 := by decide
theorem single_sign : single.signWeight = 2147483648 := by decide
theorem double_inf : double.infRung = 9218868437227405312 := by decide
theorem double_sign : double.signWeight = 9223372036854775808 := by decide

theorem nan_bits32 (p q : Nat) (hp : p < 2) (hq : q < 2 ^ 23 - 1) : 2139095040 < (p * 2 ^ 31 + 0x7f800000 + 1 + q) % 2147483648 := by
  have : p = 0 ∨ p = 1 := by omega
  rcases this with rfl | rfl <;> omega
theorem nan_bits64 (p q : Nat) (hp : p < 2) (hq : q < 2 ^ 52 - 1) : 9218868437227405312 < (p * 2 ^ 63 + 0x7ff0000000000000 + 1 + q) % 9223372036854775808 := by
  have : p = 0 ∨ p = 1 := by omega
  rcases this with rfl | rfl <;> omega

theorem nanOf_nan32 (w : World) (x y : Nat) : (single.read (nanOf w .f32 x y)).isNaN = true := by
  rw [isNaN_read _ (by decide), single_inf, single_sign]
  unfold nanOf Question.cut
  exact decide_eq_true (nan_bits32 _ _ (Nat.mod_lt _ (by omega)) (Nat.mod_lt _ (by omega)))
theorem nanOf_nan64 (w : World) (x y : Nat) : (double.read (nanOf w .f64 x y)).isNaN = true := by
  rw [isNaN_read _ (by decide), double_inf, double_sign]
  unfold nanOf Question.cut
  exact decide_eq_true (nan_bits64 _ _ (Nat.mod_lt _ (by omega)) (Nat.mod_lt _ (by omega)))
theorem nanTo_nan32 (w : World) (x : Nat) : (single.read (nanTo w .f32 x)).isNaN = true := by
  rw [isNaN_read _ (by decide), single_inf, single_sign]
  unfold nanTo Question.cut
  exact decide_eq_true (nan_bits32 _ _ (Nat.mod_lt _ (by omega)) (Nat.mod_lt _ (by omega)))
theorem nanTo_nan64 (w : World) (x : Nat) : (double.read (nanTo w .f64 x)).isNaN = true := by
  rw [isNaN_read _ (by decide), double_inf, double_sign]
  unfold nanTo Question.cut
  exact decide_eq_true (nan_bits64 _ _ (Nat.mod_lt _ (by omega)) (Nat.mod_lt _ (by omega)))

theorem order_self (f : Format) (a : Nat) : f.order a a = if (f.read a).isNaN then none else some .eq := by
  unfold Format.order
  cases f.read a with
  | number s m e => simp [Datum.order, Datum.isNaN]
  | infinity s => simp [Datum.order, Datum.isNaN]
  | nan s t => simp [Datum.order, Datum.isNaN]

/-! ### The functions without bodies -/
@[go_sem] theorem run_bits32 (n : Nat) (w : World) : (callFunc 62 #[.float .f32 n]).run Try.prog w = .ok (.value (.int .u32 n)) w := by
  rw [run_callFunc_extern Try.func62 (by kernel_rfl) (by kernel_rfl) (by kernel_rfl) (e := Extern.MathFloatBits.float32bits) (by kernel_rfl)]
  rfl
@[go_sem] theorem run_from32 (n : Int) (w : World) : (callFunc 32 #[.int .u32 n]).run Try.prog w = .ok (.value (.float .f32 n.toNat)) w := by
  rw [run_callFunc_extern Try.func32 (by kernel_rfl) (by kernel_rfl) (by kernel_rfl) (e := Extern.MathFloatBits.float32frombits) (by kernel_rfl)]
  rfl
end Go.Proofs.Ytnjbbkalcnfkeaa
