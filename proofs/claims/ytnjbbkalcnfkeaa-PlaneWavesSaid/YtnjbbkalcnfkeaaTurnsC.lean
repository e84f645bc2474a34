/- Plain laws of PlaneTurns; its walk. -/
import Derived.Test.YtnjbbkalcnfkeaaTurnsB
namespace Go.Proofs.Ytnjbbkalcnfkeaa
open Go.RowKit Ieee
set_option linter.unusedVariables false

theorem sum_comm (d e : Datum) : d.sum e = e.sum d := by
  cases d <;> cases e <;> simp only [Datum.sum]
  · rename_i s m i t n j
    rw [Int.min_comm j i, Int.add_comm (signed t n _), Bool.and_comm]
  · rename_i s t
    by_cases h : s = t
    · rw [if_pos h, if_pos h.symm, h]
    · rw [if_neg h, if_neg (fun h' => h h'.symm)]
theorem product_comm (d e : Datum) : d.product e = e.product d := by
  cases d <;> cases e <;> simp only [Datum.product, Bool.xor_comm, Nat.mul_comm, Int.add_comm]
theorem signed_not (s : Bool) (m k : Nat) : signed (!s) m k = -signed s m k := by unfold signed; cases s <;> simp
theorem sum_opp (d e : Datum) : (∃ s p, d.sum e = some (.number s 0 p)) ∨ d.opposite.sum e.opposite = (d.sum e).map Datum.opposite := by
  cases d with
  | nan s t => exact .inr (by cases e <;> rfl)
  | infinity s =>
    cases e with
    | nan t f => exact .inr rfl
    | infinity t => exact .inr (by cases s <;> cases t <;> rfl)
    | number t n j => exact .inr rfl
  | number s m i =>
    cases e with
    | nan t f => exact .inr rfl
    | infinity t => exact .inr rfl
    | number t n j =>
      by_cases h0 : signed s m (i - min i j).toNat + signed t n (j - min i j).toNat = 0
      · left
        refine ⟨s && t, min i j, ?_⟩
        simp only [Datum.sum]
        rw [if_pos h0, h0]
        rfl
      · right
        simp only [Datum.opposite, Datum.sum, signed_not, Option.map_some]
        generalize signed s m (i - min i j).toNat = x at *
        generalize signed t n (j - min i j).toNat = y at *
        rw [if_neg h0, if_neg (by omega), show (-x + -y).natAbs = (x + y).natAbs from by omega]
        by_cases hl : x + y < 0
        · rw [decide_eq_true hl, decide_eq_false (show ¬ (-x + -y < 0) from by omega)]; rfl
        · rw [decide_eq_false hl, decide_eq_true (show -x + -y < 0 from by omega)]; rfl
theorem opp_opp (d : Datum) : d.opposite.opposite = d := by cases d <;> simp [Datum.opposite]

theorem mul_comm64 (a b : Nat) : floatBits .mul .f64 a b = floatBits .mul .f64 b a := by
  show ((double.read a).product (double.read b)).map double.write = ((double.read b).product (double.read a)).map double.write
  rw [product_comm]
theorem add_comm64 (a b : Nat) : floatBits .add .f64 a b = floatBits .add .f64 b a := by
  show ((double.read a).sum (double.read b)).map double.write = ((double.read b).sum (double.read a)).map double.write
  rw [sum_comm]

theorem d_sign : double.signWeight = 9223372036854775808 := by decide
theorem d_word (s : Bool) (r : Nat) : double.word s r = (if s then 9223372036854775808 else 0) + r := by
  unfold Format.word
  rw [d_sign]
  cases s <;> simp
theorem xor63 (r : Nat) (h : r < 9223372036854775808) : r ^^^ 9223372036854775808 = r + 9223372036854775808 := by
  have h1 := Nat.xor_mod_two_pow (a := r) (b := 9223372036854775808) (n := 63)
  have h2 := Nat.xor_div_two_pow (a := r) (b := 9223372036854775808) (n := 63)
  have e1 : 9223372036854775808 % 2 ^ 63 = 0 := by decide
  have e2 : 9223372036854775808 / 2 ^ 63 = 1 := by decide
  rw [e1, Nat.xor_zero] at h1
  rw [e2, show r / 2 ^ 63 = 0 from by omega, show 0 ^^^ 1 = 1 from by decide] at h2
  have h3 := Nat.div_add_mod (r ^^^ 9223372036854775808) (2 ^ 63)
  omega
theorem neg_word (s : Bool) (r : Nat) (h : r < 9223372036854775808) : Op.negFloat .f64 (double.word (!s) r) = double.word s r := by
  show double.word (!s) r ^^^ 9223372036854775808 = _
  have hx := xor63 r h
  cases s
  · rw [d_word, d_word]
    show (9223372036854775808 + r) ^^^ 9223372036854775808 = 0 + r
    rw [Nat.add_comm, ← hx, Nat.xor_assoc, Nat.xor_self, Nat.xor_zero, Nat.zero_add]
  · rw [d_word, d_word]
    show (0 + r) ^^^ 9223372036854775808 = 9223372036854775808 + r
    rw [Nat.zero_add, hx, Nat.add_comm]
/-- A datum written with the other sign, turned. -/
theorem neg_write (d : Datum) (hn : d.isNaN = false) : Op.negFloat .f64 (double.write d.opposite) = double.write d := by
  have hi : double.infRung < 9223372036854775808 := by decide
  cases d with
  | nan s t => cases hn
  | infinity s => exact neg_word s double.infRung hi
  | number s m i =>
    show Op.negFloat .f64 (double.nearest (!s) m i) = double.nearest s m i
    rw [nearest_eq, nearest_eq]
    exact neg_word s _ (Nat.lt_of_le_of_lt (rungOf_le_inf _ _ _) hi)
theorem zero_write (s : Bool) (p : Int) : double.write (.number s 0 p) = double.word s 0 := by
  show double.nearest s 0 p = _
  rw [nearest_eq]; rfl
theorem zero_order (s t : Bool) : double.order (double.word s 0) (Op.negFloat .f64 (double.word t 0)) = some .eq := by
  cases s <;> cases t <;> decide +kernel

/-- The outer product turns its sign. -/
theorem cross_opp (p q : Option Nat) : (comb .sub p q = none ∧ comb .sub q p = none) ∨ ∃ u v, comb .sub p q = some u ∧ comb .sub q p = some v ∧ double.order u (Op.negFloat .f64 v) = some .eq := by
  cases p with
  | none => cases q <;> exact .inl ⟨rfl, rfl⟩
  | some p =>
    cases q with
    | none => exact .inl ⟨rfl, rfl⟩
    | some q =>
      have e1 : comb .sub (some p) (some q) = ((double.read p).sum (double.read q).opposite).map double.write := rfl
      have e2 : comb .sub (some q) (some p) = ((double.read q).sum (double.read p).opposite).map double.write := rfl
      rw [e1, e2]
      generalize double.read p = d
      generalize double.read q = e
      have h1 := sum_opp d e.opposite
      rw [opp_opp, sum_comm d.opposite e] at h1
      have h2 := sum_opp e d.opposite
      rw [opp_opp, sum_comm e.opposite d] at h2
      have ho : ∀ D, d.sum e.opposite = some D → D.isNaN = false := fun D h => sum_notNaN h
      generalize d.sum e.opposite = D at *
      generalize e.sum d.opposite = E at *
      rcases h1 with ⟨s, x, h1⟩ | h1
      · rcases h2 with ⟨t, y, h2⟩ | h2
        · right
          rw [h1, h2]
          exact ⟨_, _, rfl, rfl, by rw [zero_write, zero_write]; exact zero_order s t⟩
        · right
          rw [h1] at h2
          cases E with
          | none => cases h2
          | some f =>
            rw [Option.map_some] at h2
            injection h2 with h2
            have hf : f = .number (!s) 0 x := by rw [← opp_opp f, ← h2]; rfl
            rw [h1, hf]
            exact ⟨_, _, rfl, rfl, by rw [zero_write, zero_write]; exact zero_order s (!s)⟩
      · cases D with
        | none => left; rw [h1]; exact ⟨rfl, rfl⟩
        | some f =>
          right
          have hf := ho f rfl
          rw [h1]
          refine ⟨_, _, rfl, rfl, ?_⟩
          rw [neg_write f hf, order_self, write_notNaN double (by decide) f hf]
          rfl

theorem isF_alk {o : Option Nat} {x y : Nat} (h1 : IsF o x) (h2 : IsF o y) : Alk x y := by
  rcases h1 with h1 | ⟨h1, n1⟩
  · rcases h2 with h2 | ⟨h2, n2⟩
    · rw [h1] at h2; injection h2 with h2; exact .inr h2
    · rw [h1] at h2; cases h2
  · rcases h2 with h2 | ⟨h2, n2⟩
    · rw [h1] at h2; cases h2
    · exact .inl ⟨n1, n2⟩

/-! ### The walk -/
theorem of_any (x y : Nat) (w : World) : Calls Try.prog 14 #[.agg #[.float .f64 x, .float .f64 y]] w (Ret w (.complex .f64 x y)) := by
  go_enter Try.func14, Try.ntmps14
  go_wp2
  go_ret
  exact ⟨rfl, bs_alloc (Below.refl _ _) _⟩
theorem lives_any (w : World) : Calls Try.prog 13 #[] w fun e w' => e = .returned (.bool true) ∧ ∃ n, w' = w.drewN n := by
  have m := fun W => Mul_any 4607182418800017408 4611686018427387904 4613937818241073152 13830554455654793216 W
  rw [show comb .sub (floatBits .mul .f64 4607182418800017408 4613937818241073152) (floatBits .mul .f64 4611686018427387904 13830554455654793216) = some 4617315517961601024 from by decide +kernel,
    show comb .add (floatBits .mul .f64 4607182418800017408 13830554455654793216) (floatBits .mul .f64 4611686018427387904 4613937818241073152) = some 4617315517961601024 from by decide +kernel] at m
  have M := Lib.hid m
  clear m
  have ho : (FloatKind.f64.format.order 4617315517961601024 4617315517961601024 == some .eq) = true := by decide +kernel
  go_enter Try.func13, Try.ntmps13
  go_wp2_with fail
  refine (M.out _).mono ?_
  rintro e w1 ⟨x, y, n, rfl, hx, hy, rfl⟩
  have ex : x = 4617315517961601024 := by
    rcases hx with h | ⟨h, -⟩
    · injection h with h; exact h.symm
    · cases h
  have ey : y = 4617315517961601024 := by
    rcases hy with h | ⟨h, -⟩
    · injection h with h; exact h.symm
    · cases h
  subst ex ey
  go_wp2
  go_ret
  exact ⟨rfl, n, rfl⟩
end Go.Proofs.Ytnjbbkalcnfkeaa
