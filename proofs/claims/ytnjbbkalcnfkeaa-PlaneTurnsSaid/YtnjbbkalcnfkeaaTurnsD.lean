/- PlaneTurns (printed by a program of ours). -/
import Derived.Test.YtnjbbkalcnfkeaaTurnsC
namespace Go.Proofs.Ytnjbbkalcnfkeaa
open Go.RowKit Ieee
set_option linter.unusedVariables false

theorem comb_add (p q : Option Nat) : comb .add p q = comb .add q p := by
  cases p with
  | none => cases q <;> rfl
  | some p =>
    cases q with
    | none => rfl
    | some q => exact add_comm64 p q
theorem order_nan (x y : Nat) (h : (double.read x).isNaN = true) : double.order x y = none := by
  obtain ⟨s, t, e⟩ := nan_form h
  unfold Format.order
  rw [e]
  cases double.read y <;> rfl
theorem ne_self (x : Nat) (h : (double.read x).isNaN = true) : (FloatKind.f64.format.order x x != some .eq) = true := by
  rw [show FloatKind.f64.format = double from rfl, order_nan x x h]; rfl
theorem tmod_big (p : Int) : -1000000006 ≤ p.tmod 1000000007 ∧ p.tmod 1000000007 ≤ 1000000006 := by
  have h : (p.tmod 1000000007).natAbs = p.natAbs % 1000000007 := Int.natAbs_tmod p 1000000007
  have := Nat.mod_lt p.natAbs (show 0 < 1000000007 by omega)
  omega
theorem none_nan {o : Option Nat} {v : Nat} (h : IsF o v) (hn : o = none) : (double.read v).isNaN = true := by
  rcases h with h | ⟨-, h⟩
  · rw [hn] at h; cases h
  · exact h
theorem some_eq {o : Option Nat} {v r : Nat} (h : IsF o v) (hn : o = some r) : v = r := by
  rcases h with h | ⟨h, -⟩
  · rw [hn] at h; injection h with h; exact h.symm
  · rw [hn] at h; cases h

set_option maxRecDepth 100000 in
set_option maxHeartbeats 4000000 in
theorem turns_nan (a b c d : Nat) (ha : a < 18446744073709551616) (hb : b < 18446744073709551616) (p q : Int) (o1 o2 : Option Nat)
    (hO1 : comb .sub (floatBits .mul .f64 a d) (floatBits .mul .f64 b c) = o1) (hO2 : comb .sub (floatBits .mul .f64 c b) (floatBits .mul .f64 d a) = o2) (h1 : o1 = none) (h2 : o2 = none) (w : World) :
    Calls Try.prog 5 #[.agg #[.float .f64 a, .float .f64 b], .agg #[.float .f64 c, .float .f64 d], .int .i64 p, .int .i64 q] w (Ret w (.bool true)) := by
  have x1 := fun W => Cross_any a b c d W
  have x2 := fun W => Cross_any c d a b W
  rw [hO1] at x1
  rw [hO2] at x2
  have X1 := Lib.hid x1
  have X2 := Lib.hid x2
  clear x1 x2 hO1 hO2
  obtain ⟨m, hm⟩ : ∃ m, p.tmod 1000000007 = m := ⟨_, rfl⟩
  obtain ⟨n, hn⟩ : ∃ n, q.tmod 1000000007 = n := ⟨_, rfl⟩
  have bm := tmod_big p
  have bn := tmod_big q
  rw [hm] at bm
  rw [hn] at bn
  have wm : IntKind.i64.wrap m = m := IntWalk.i64_in _ (by omega)
  have wn : IntKind.i64.wrap n = n := IntWalk.i64_in _ (by omega)
  have ws : IntKind.i64.wrap (m + n) = m + n := IntWalk.i64_in _ (by omega)
  have hl := rot_lt (m % 4) ha hb
  have r1 := fun W => Turn_any a b ha hb m W
  have r2 := fun W => Turn_any (rotX (m % 4) a b) (rotY (m % 4) a b) hl.1 hl.2 n W
  have r3 := fun W => Turn_any a b ha hb (m + n) W
  obtain ⟨e1, e2⟩ := rot_rot m n a b
  rw [e1, e2] at r2
  obtain ⟨A, hA⟩ : ∃ A, rotX (m % 4) a b = A := ⟨_, rfl⟩
  obtain ⟨B, hB'⟩ : ∃ A, rotY (m % 4) a b = A := ⟨_, rfl⟩
  obtain ⟨C, hC⟩ : ∃ A, rotX ((m + n) % 4) a b = A := ⟨_, rfl⟩
  obtain ⟨D, hD⟩ : ∃ A, rotY ((m + n) % 4) a b = A := ⟨_, rfl⟩
  rw [hA, hB'] at r1 r2
  rw [hC, hD] at r2 r3
  have R1 := Lib.hid r1
  have R2 := Lib.hid r2
  have R3 := Lib.hid r3
  have S1 := Lib.hid (fun W => Same_any C D C D (.inr rfl) (.inr rfl) W)
  have m1 := fun W => Mul_any a b c d W
  have m2 := fun W => Mul_any c d a b W
  rw [mul_comm64 c a, mul_comm64 d b, mul_comm64 c b, mul_comm64 d a, comb_add (floatBits .mul .f64 b c)] at m2
  have M1 := Lib.hid m1
  have M2 := Lib.hid m2
  have d1 := fun W => Add_any a b c d W
  have d2 := fun W => Add_any c d a b W
  rw [add_comm64 c a, add_comm64 d b] at d2
  have D1 := Lib.hid d1
  have D2 := Lib.hid d2
  have F1 := Lib.hid (fun W => of_any a b W)
  have F2 := Lib.hid (fun W => of_any c d W)
  clear r1 r2 r3 m1 m2 d1 d2 e1 e2 hl hA hB' hC hD bm bn ha hb
  have hneg : ∀ (W : World) (x : Nat), Sem.run Try.prog (Op.unary .neg (.float .f64 x)) W = .ok (.float .f64 (Op.negFloat .f64 x)) W := fun W x => rfl
  go_enter Try.func5, Try.ntmps5
  go_wp2_with fail
  refine (lives_any _).mono ?_
  rintro e w' ⟨rfl, n0, rfl⟩
  go_wp2_with fail
  refine (F1.out _).mono ?_
  rintro e w1 ⟨rfl, hB⟩
  obtain ⟨hc, hf⟩ := bel_cells hB
  go_wp2_with fail
  refine (F2.out _).mono ?_
  rintro e w2 ⟨rfl, hb2⟩
  replace hB := hB.trans (hb2.mono hB.size)
  have HB := Lib.hid hB
  clear hb2 hc hf hB
  go_wp2_with fail
  refine (X1.out _).mono ?_
  rintro e w3 ⟨u, n1, rfl, hu, rfl⟩
  go_wp2_with fail
  refine (X2.out _).mono ?_
  rintro e w3 ⟨v, n2, rfl, hv, rfl⟩
  have nu := none_nan hu h1
  have nv := none_nan hv h2
  have fu := ne_self u nu
  have fv := ne_self v nv
  have fe : (FloatKind.f64.format.order u (Op.negFloat .f64 v) == some .eq) = false := by rw [show FloatKind.f64.format = double from rfl, order_nan u _ nu]; rfl
  clear hu hv nu nv h1 h2
  go_wp2_with fail
  refine (R1.out _).mono ?_
  rintro e w' ⟨rfl, rfl⟩
  go_wp2_with fail
  refine (R2.out _).mono ?_
  rintro e w' ⟨rfl, rfl⟩
  go_wp2_with fail
  refine (R3.out _).mono ?_
  rintro e w' ⟨rfl, rfl⟩
  go_wp2_with fail
  refine (S1.out _).mono ?_
  rintro e w' ⟨rfl, rfl⟩
  go_wp2_with fail
  refine (M1.out _).mono ?_
  rintro e w' ⟨g1, g2, n3, rfl, hg1, hg2, rfl⟩
  go_wp2_with fail
  refine (M2.out _).mono ?_
  rintro e w' ⟨h1, h2, n4, rfl, hh1, hh2, rfl⟩
  have S2 := Lib.hid (fun W => Same_any g1 g2 h1 h2 (isF_alk hg1 hh1) (isF_alk hg2 hh2) W)
  clear hg1 hg2 hh1 hh2
  go_wp2_with fail
  refine (S2.out _).mono ?_
  rintro e w' ⟨rfl, rfl⟩
  go_wp2_with fail
  refine (D1.out _).mono ?_
  rintro e w' ⟨i1, i2, n5, rfl, hi1, hi2, rfl⟩
  go_wp2_with fail
  refine (D2.out _).mono ?_
  rintro e w' ⟨j1, j2, n6, rfl, hj1, hj2, rfl⟩
  have S3 := Lib.hid (fun W => Same_any i1 i2 j1 j2 (isF_alk hi1 hj1) (isF_alk hi2 hj2) W)
  clear hi1 hi2 hj1 hj2
  go_wp2_with fail
  refine (S3.out _).mono ?_
  rintro e w' ⟨rfl, rfl⟩
  go_wp2
  go_ret
  exact ⟨rfl, by repeat (first | exact Below.refl _ _ | refine bs_alloc ?_ _ | refine bs_drew ?_ | refine bs_drewN ?_ _ | (refine bs_step ?_ HB.out))⟩

set_option maxRecDepth 100000 in
set_option maxHeartbeats 4000000 in
theorem turns_num (a b c d : Nat) (ha : a < 18446744073709551616) (hb : b < 18446744073709551616) (p q : Int) (o1 o2 : Option Nat)
    (hO1 : comb .sub (floatBits .mul .f64 a d) (floatBits .mul .f64 b c) = o1) (hO2 : comb .sub (floatBits .mul .f64 c b) (floatBits .mul .f64 d a) = o2) (x y : Nat) (h1 : o1 = some x) (h2 : o2 = some y) (h3 : double.order x (Op.negFloat .f64 y) = some .eq) (w : World) :
    Calls Try.prog 5 #[.agg #[.float .f64 a, .float .f64 b], .agg #[.float .f64 c, .float .f64 d], .int .i64 p, .int .i64 q] w (Ret w (.bool true)) := by
  have x1 := fun W => Cross_any a b c d W
  have x2 := fun W => Cross_any c d a b W
  rw [hO1] at x1
  rw [hO2] at x2
  have X1 := Lib.hid x1
  have X2 := Lib.hid x2
  clear x1 x2 hO1 hO2
  obtain ⟨m, hm⟩ : ∃ m, p.tmod 1000000007 = m := ⟨_, rfl⟩
  obtain ⟨n, hn⟩ : ∃ n, q.tmod 1000000007 = n := ⟨_, rfl⟩
  have bm := tmod_big p
  have bn := tmod_big q
  rw [hm] at bm
  rw [hn] at bn
  have wm : IntKind.i64.wrap m = m := IntWalk.i64_in _ (by omega)
  have wn : IntKind.i64.wrap n = n := IntWalk.i64_in _ (by omega)
  have ws : IntKind.i64.wrap (m + n) = m + n := IntWalk.i64_in _ (by omega)
  have hl := rot_lt (m % 4) ha hb
  have r1 := fun W => Turn_any a b ha hb m W
  have r2 := fun W => Turn_any (rotX (m % 4) a b) (rotY (m % 4) a b) hl.1 hl.2 n W
  have r3 := fun W => Turn_any a b ha hb (m + n) W
  obtain ⟨e1, e2⟩ := rot_rot m n a b
  rw [e1, e2] at r2
  obtain ⟨A, hA⟩ : ∃ A, rotX (m % 4) a b = A := ⟨_, rfl⟩
  obtain ⟨B, hB'⟩ : ∃ A, rotY (m % 4) a b = A := ⟨_, rfl⟩
  obtain ⟨C, hC⟩ : ∃ A, rotX ((m + n) % 4) a b = A := ⟨_, rfl⟩
  obtain ⟨D, hD⟩ : ∃ A, rotY ((m + n) % 4) a b = A := ⟨_, rfl⟩
  rw [hA, hB'] at r1 r2
  rw [hC, hD] at r2 r3
  have R1 := Lib.hid r1
  have R2 := Lib.hid r2
  have R3 := Lib.hid r3
  have S1 := Lib.hid (fun W => Same_any C D C D (.inr rfl) (.inr rfl) W)
  have m1 := fun W => Mul_any a b c d W
  have m2 := fun W => Mul_any c d a b W
  rw [mul_comm64 c a, mul_comm64 d b, mul_comm64 c b, mul_comm64 d a, comb_add (floatBits .mul .f64 b c)] at m2
  have M1 := Lib.hid m1
  have M2 := Lib.hid m2
  have d1 := fun W => Add_any a b c d W
  have d2 := fun W => Add_any c d a b W
  rw [add_comm64 c a, add_comm64 d b] at d2
  have D1 := Lib.hid d1
  have D2 := Lib.hid d2
  have F1 := Lib.hid (fun W => of_any a b W)
  have F2 := Lib.hid (fun W => of_any c d W)
  clear r1 r2 r3 m1 m2 d1 d2 e1 e2 hl hA hB' hC hD bm bn ha hb
  have hneg : ∀ (W : World) (x : Nat), Sem.run Try.prog (Op.unary .neg (.float .f64 x)) W = .ok (.float .f64 (Op.negFloat .f64 x)) W := fun W x => rfl
  go_enter Try.func5, Try.ntmps5
  go_wp2_with fail
  refine (lives_any _).mono ?_
  rintro e w' ⟨rfl, n0, rfl⟩
  go_wp2_with fail
  refine (F1.out _).mono ?_
  rintro e w1 ⟨rfl, hB⟩
  obtain ⟨hc, hf⟩ := bel_cells hB
  go_wp2_with fail
  refine (F2.out _).mono ?_
  rintro e w2 ⟨rfl, hb2⟩
  replace hB := hB.trans (hb2.mono hB.size)
  have HB := Lib.hid hB
  clear hb2 hc hf hB
  go_wp2_with fail
  refine (X1.out _).mono ?_
  rintro e w3 ⟨u, n1, rfl, hu, rfl⟩
  go_wp2_with fail
  refine (X2.out _).mono ?_
  rintro e w3 ⟨v, n2, rfl, hv, rfl⟩
  have eu := some_eq hu h1
  have ev := some_eq hv h2
  subst eu ev
  have fe : (FloatKind.f64.format.order u (Op.negFloat .f64 v) == some .eq) = true := by rw [show FloatKind.f64.format = double from rfl, h3]; rfl
  clear hu hv h1 h2 h3
  go_wp2_with fail
  refine (R1.out _).mono ?_
  rintro e w' ⟨rfl, rfl⟩
  go_wp2_with fail
  refine (R2.out _).mono ?_
  rintro e w' ⟨rfl, rfl⟩
  go_wp2_with fail
  refine (R3.out _).mono ?_
  rintro e w' ⟨rfl, rfl⟩
  go_wp2_with fail
  refine (S1.out _).mono ?_
  rintro e w' ⟨rfl, rfl⟩
  go_wp2_with fail
  refine (M1.out _).mono ?_
  rintro e w' ⟨g1, g2, n3, rfl, hg1, hg2, rfl⟩
  go_wp2_with fail
  refine (M2.out _).mono ?_
  rintro e w' ⟨h1, h2, n4, rfl, hh1, hh2, rfl⟩
  have S2 := Lib.hid (fun W => Same_any g1 g2 h1 h2 (isF_alk hg1 hh1) (isF_alk hg2 hh2) W)
  clear hg1 hg2 hh1 hh2
  go_wp2_with fail
  refine (S2.out _).mono ?_
  rintro e w' ⟨rfl, rfl⟩
  go_wp2_with fail
  refine (D1.out _).mono ?_
  rintro e w' ⟨i1, i2, n5, rfl, hi1, hi2, rfl⟩
  go_wp2_with fail
  refine (D2.out _).mono ?_
  rintro e w' ⟨j1, j2, n6, rfl, hj1, hj2, rfl⟩
  have S3 := Lib.hid (fun W => Same_any i1 i2 j1 j2 (isF_alk hi1 hj1) (isF_alk hi2 hj2) W)
  clear hi1 hi2 hj1 hj2
  go_wp2_with fail
  refine (S3.out _).mono ?_
  rintro e w' ⟨rfl, rfl⟩
  go_wp2
  go_ret
  exact ⟨rfl, by repeat (first | exact Below.refl _ _ | refine bs_alloc ?_ _ | refine bs_drew ?_ | refine bs_drewN ?_ _ | (refine bs_step ?_ HB.out))⟩

theorem turns_law (a b c d : Nat) (ha : a < 18446744073709551616) (hb : b < 18446744073709551616) (p q : Int) (w : World) :
    Calls Try.prog 5 #[.agg #[.float .f64 a, .float .f64 b], .agg #[.float .f64 c, .float .f64 d], .int .i64 p, .int .i64 q] w (Ret w (.bool true)) := by
  have h := cross_opp (floatBits .mul .f64 a d) (floatBits .mul .f64 b c)
  have e : comb .sub (floatBits .mul .f64 b c) (floatBits .mul .f64 a d) = comb .sub (floatBits .mul .f64 c b) (floatBits .mul .f64 d a) := by rw [mul_comm64 c b, mul_comm64 d a]
  rw [e] at h
  rcases h with ⟨h1, h2⟩ | ⟨x, y, h1, h2, h3⟩
  · exact turns_nan a b c d ha hb p q _ _ rfl rfl h1 h2 w
  · exact turns_num a b c d ha hb p q _ _ rfl rfl x y h1 h2 h3 w
end Go.Proofs.Ytnjbbkalcnfkeaa
