/- PROVED: AluDivides: a quotient times its divisor and the rest are the word again, the rest is below the divisor in size and has the word's sign, and a division by nought is refused; no condition. -/
import Derived.Test.YtfgbjaejkfkmmaaRows
import Derived.WalkKit
import Derived.ProofKit
import Derived.OpenShut
import Derived.ChangeOld
import Derived.Below
import Derived.Test.YtfgbjaejkfkmmaaAluP
namespace Go.Proofs.Ytfgbjaejkfkmmaa.aluDivides
open Go.ChangeShapes Go.WideShapes Go.ChangeAt Go.RowKit
set_option linter.unusedVariables false      -- a walk need not use every 'w<i>' (that an integer argument fits its kind)

theorem own : ownKnob Try.prog.godebug = none := by kernel_rfl

/-! ### THE WALK -/
set_option maxRecDepth 100000 in
set_option maxHeartbeats 4000000 in
theorem walk (a0 : Int) (a1 : Int) (w0 : (Lit.int .u32 a0).wf = true) (w1 : (Lit.int .u32 a1).wf = true) (w : World) :
    Calls Try.prog 8 #[.int .u32 a0, .int .u32 a1] w fun e w' => e = .returned (.bool true) ∧ Below w.heap.size w w' := by
  have b0 := bounds_u32 w0
  have b1 := bounds_u32 w1
  obtain ⟨a, rfl⟩ := Int.eq_ofNat_of_zero_le b0.1
  obtain ⟨b, rfl⟩ := Int.eq_ofNat_of_zero_le b1.1
  have ha : a ≤ 4294967295 := by omega
  have hb : b ≤ 4294967295 := by omega
  clear b0 b1 w0 w1
  by_cases hb0 : b = 0
  · subst hb0
    have c1 := Lib.hid (fun W => Binary_42_nought a W)
    have c2 := Lib.hid (fun W => Binary_44_nought a W)
    have c3 := Lib.hid (fun W => Binary_43_nought a W)
    have c4 := Lib.hid (fun W => Binary_45_nought a W)
    go_enter Try.func8, Try.ntmps8
    go_wp2_with fail
    refine (c1.out _).mono ?_
    rintro e w' ⟨rfl, g1⟩
    go_wp2_with fail
    refine (c2.out _).mono ?_
    rintro e w' ⟨rfl, g2⟩
    go_wp2_with fail
    refine (c3.out _).mono ?_
    rintro e w' ⟨rfl, g3⟩
    go_wp2_with fail
    refine (c4.out _).mono ?_
    rintro e w' ⟨rfl, g4⟩
    go_wp2_with fail
    refine (awake_any _).mono ?_
    rintro e w' ⟨rfl, g5⟩
    go_wp2
    go_ret
    exact ⟨ret_same (by simp), (by repeat (first | exact Below.refl _ _ | refine bs_drew ?_ | refine bs_drewN ?_ _ | (refine bs_step ?_ (by assumption))))⟩
  · obtain ⟨q, hq⟩ : ∃ q, a / b = q := ⟨_, rfl⟩
    obtain ⟨r, hr⟩ : ∃ r, a % b = r := ⟨_, rfl⟩
    obtain ⟨p, hp⟩ : ∃ p, q * b % 4294967296 = p := ⟨_, rfl⟩
    have hback := quot_back_nat a b ha
    rw [hq, hr, hp] at hback
    have hrb : r < b := by rw [← hr]; exact Nat.mod_lt _ (by omega)
    have hqa : q ≤ a := by rw [← hq]; exact Nat.div_le_self _ _
    have hz : ¬ wrap32 (b : Int) = 0 := by
      intro h
      have := wrap_mod (b : Int)
      rw [h] at this
      omega
    obtain ⟨A, hA⟩ : ∃ A, wrap32 (a : Int) = A := ⟨_, rfl⟩
    obtain ⟨B, hB⟩ : ∃ B, wrap32 (b : Int) = B := ⟨_, rfl⟩
    obtain ⟨q2, hq2⟩ : ∃ q : Nat, wrap32 ((wrap32 (a : Int)).tdiv (wrap32 (b : Int))) % 4294967296 = (q : Int) := Int.eq_ofNat_of_zero_le (Int.emod_nonneg _ (by decide))
    obtain ⟨r2, hr2⟩ : ∃ q : Nat, (wrap32 (a : Int)).tmod (wrap32 (b : Int)) % 4294967296 = (q : Int) := Int.eq_ofNat_of_zero_le (Int.emod_nonneg _ (by decide))
    obtain ⟨p2, hp2⟩ : ∃ p, q2 * b % 4294967296 = p := ⟨_, rfl⟩
    have hback2 := quot_back a b q2 r2 ha hb hq2 hr2
    rw [hp2] at hback2
    have hq2l : q2 ≤ 4294967295 := by
      have := Int.emod_lt_of_pos (wrap32 ((wrap32 (a : Int)).tdiv (wrap32 (b : Int)))) (show (0 : Int) < 4294967296 by decide)
      rw [hq2] at this
      exact Nat.le_of_lt_succ (Int.ofNat_lt.1 this)
    have hr2l : r2 ≤ 4294967295 := by
      have := Int.emod_lt_of_pos ((wrap32 (a : Int)).tmod (wrap32 (b : Int))) (show (0 : Int) < 4294967296 by decide)
      rw [hr2] at this
      exact Nat.le_of_lt_succ (Int.ofNat_lt.1 this)
    have c1 := Lib.hid (fun W => two_43 a b q ha hb (by omega) hq W)
    have c2 := Lib.hid (fun W => two_45 a b r ha hb (by omega) hr W)
    have c3 := Lib.hid (fun W => two_41 q b p (by omega) hb hp W)
    have c4 := Lib.hid (fun W => two_39 p r a (by omega) (by omega) hback W)
    have c5 := Lib.hid (fun W => two_42 a b q2 ha hb hz hq2 W)
    have c6 := Lib.hid (fun W => two_44 a b r2 ha hb hz hr2 W)
    have c7 := Lib.hid (fun W => two_41 q2 b p2 hq2l hb hp2 W)
    have c8 := Lib.hid (fun W => two_39 p2 r2 a (by omega) hr2l hback2 W)
    have v1 : decide (b ≤ r) = false := decide_eq_false (by omega)
    have v2 : decide (a < q) = false := decide_eq_false (by omega)
    have i1 := wrap_in (a : Int)
    have i2 := wrap_in (b : Int)
    rw [hA, hB] at hr2
    rw [hA] at i1
    rw [hB] at i2 hz
    obtain ⟨X, hX⟩ : ∃ X, A.tmod B = X := ⟨_, rfl⟩
    have i3 := tmod_in A B i1.1 i1.2
    have j := rest_of A B hz
    rw [hX] at i3 j hr2
    have hXr := wrap_back X r2 i3.1 i3.2 hr2
    have hb0' : ((b : Int) == 0) = false := by rw [beq_eq_false_iff_ne]; exact fun h => hb0 (Int.ofNat_eq_zero.1 h)
    have x1 : -2147483648 ≤ X := i3.1
    have x2 : X ≤ 2147483647 := i3.2
    have y1 : -2147483648 ≤ B := i2.1
    have y2 : B ≤ 2147483647 := i2.2
    clear hq hr hp hq2 hp2 hback hback2 hq2l hr2l hr2 hrb hqa ha hb i1 i2 i3 hX
    rcases Int.lt_trichotomy X 0 with hX0 | hX0 | hX0
    · rcases Int.lt_or_gt_of_ne hz with hB0 | hB0
      · have t1 : (X == 0) = false := by rw [beq_eq_false_iff_ne]; omega
        have t1' : (X != 0) = true := by rw [bne_iff_ne]; omega
        have t2 : decide (X < 0) = true := decide_eq_true (by omega)
        have t3 : decide (A < 0) = true := decide_eq_true (by have := j.1; have := j.2.1; omega)
        have t4 : decide (B < 0) = true := decide_eq_true (by omega)
        have t5 : decide (-X < -B) = true := decide_eq_true (by have := j.2.2.1; have := j.2.2.2; omega)
        have t5' : decide (B < X) = true := decide_eq_true (by have := j.2.2.1; have := j.2.2.2; omega)
        have t6 : IntKind.i64.wrap (-X) = -X := IntWalk.i64_in _ (by omega)
        have t7 : IntKind.i64.wrap (-B) = -B := IntWalk.i64_in _ (by omega)
        clear j hz hX0 hB0 hb0
        go_enter Try.func8, Try.ntmps8
        go_wp2_with fail
        refine (c1.out _).mono ?_
        rintro e w' ⟨rfl, g1⟩
        go_wp2_with fail
        refine (c2.out _).mono ?_
        rintro e w' ⟨rfl, g2⟩
        go_wp2_with fail
        refine (c3.out _).mono ?_
        rintro e w' ⟨rfl, g3⟩
        go_wp2_with fail
        refine (c4.out _).mono ?_
        rintro e w' ⟨rfl, g4⟩
        go_wp2_with fail
        refine (c5.out _).mono ?_
        rintro e w' ⟨rfl, g5⟩
        go_wp2_with fail
        refine (c6.out _).mono ?_
        rintro e w' ⟨rfl, g6⟩
        go_wp2_with fail
        refine (c7.out _).mono ?_
        rintro e w' ⟨rfl, g7⟩
        go_wp2_with fail
        refine (c8.out _).mono ?_
        rintro e w' ⟨rfl, g8⟩
        go_wp2_with fail
        refine (awake_any _).mono ?_
        rintro e w' ⟨rfl, g9⟩
        go_wp2
        go_ret
        exact ⟨ret_same (by simp), (by repeat (first | exact Below.refl _ _ | refine bs_drew ?_ | refine bs_drewN ?_ _ | (refine bs_step ?_ (by assumption))))⟩
      · have t1 : (X == 0) = false := by rw [beq_eq_false_iff_ne]; omega
        have t1' : (X != 0) = true := by rw [bne_iff_ne]; omega
        have t2 : decide (X < 0) = true := decide_eq_true (by omega)
        have t3 : decide (A < 0) = true := decide_eq_true (by have := j.1; have := j.2.1; omega)
        have t4 : decide (B < 0) = false := decide_eq_false (by omega)
        have t5 : decide (-X < B) = true := decide_eq_true (by have := j.2.2.1; have := j.2.2.2; omega)
        have t6 : IntKind.i64.wrap (-X) = -X := IntWalk.i64_in _ (by omega)
        clear j hz hX0 hB0 hb0
        go_enter Try.func8, Try.ntmps8
        go_wp2_with fail
        refine (c1.out _).mono ?_
        rintro e w' ⟨rfl, g1⟩
        go_wp2_with fail
        refine (c2.out _).mono ?_
        rintro e w' ⟨rfl, g2⟩
        go_wp2_with fail
        refine (c3.out _).mono ?_
        rintro e w' ⟨rfl, g3⟩
        go_wp2_with fail
        refine (c4.out _).mono ?_
        rintro e w' ⟨rfl, g4⟩
        go_wp2_with fail
        refine (c5.out _).mono ?_
        rintro e w' ⟨rfl, g5⟩
        go_wp2_with fail
        refine (c6.out _).mono ?_
        rintro e w' ⟨rfl, g6⟩
        go_wp2_with fail
        refine (c7.out _).mono ?_
        rintro e w' ⟨rfl, g7⟩
        go_wp2_with fail
        refine (c8.out _).mono ?_
        rintro e w' ⟨rfl, g8⟩
        go_wp2_with fail
        refine (awake_any _).mono ?_
        rintro e w' ⟨rfl, g9⟩
        go_wp2
        go_ret
        exact ⟨ret_same (by simp), (by repeat (first | exact Below.refl _ _ | refine bs_drew ?_ | refine bs_drewN ?_ _ | (refine bs_step ?_ (by assumption))))⟩
    · rcases Int.lt_or_gt_of_ne hz with hB0 | hB0
      · have t1 : (X == 0) = true := by rw [beq_iff_eq]; omega
        have t1' : (X != 0) = false := by rw [bne_eq_false_iff_eq]; omega
        have t2 : decide (X < 0) = false := decide_eq_false (by omega)
        have t4 : decide (B < 0) = true := decide_eq_true (by omega)
        have t5 : decide (X < -B) = true := decide_eq_true (by have := j.2.2.1; have := j.2.2.2; omega)
        have t7 : IntKind.i64.wrap (-B) = -B := IntWalk.i64_in _ (by omega)
        clear j hz hX0 hB0 hb0
        go_enter Try.func8, Try.ntmps8
        go_wp2_with fail
        refine (c1.out _).mono ?_
        rintro e w' ⟨rfl, g1⟩
        go_wp2_with fail
        refine (c2.out _).mono ?_
        rintro e w' ⟨rfl, g2⟩
        go_wp2_with fail
        refine (c3.out _).mono ?_
        rintro e w' ⟨rfl, g3⟩
        go_wp2_with fail
        refine (c4.out _).mono ?_
        rintro e w' ⟨rfl, g4⟩
        go_wp2_with fail
        refine (c5.out _).mono ?_
        rintro e w' ⟨rfl, g5⟩
        go_wp2_with fail
        refine (c6.out _).mono ?_
        rintro e w' ⟨rfl, g6⟩
        go_wp2_with fail
        refine (c7.out _).mono ?_
        rintro e w' ⟨rfl, g7⟩
        go_wp2_with fail
        refine (c8.out _).mono ?_
        rintro e w' ⟨rfl, g8⟩
        go_wp2_with fail
        refine (awake_any _).mono ?_
        rintro e w' ⟨rfl, g9⟩
        go_wp2
        go_ret
        exact ⟨ret_same (by simp), (by repeat (first | exact Below.refl _ _ | refine bs_drew ?_ | refine bs_drewN ?_ _ | (refine bs_step ?_ (by assumption))))⟩
      · have t1 : (X == 0) = true := by rw [beq_iff_eq]; omega
        have t1' : (X != 0) = false := by rw [bne_eq_false_iff_eq]; omega
        have t2 : decide (X < 0) = false := decide_eq_false (by omega)
        have t4 : decide (B < 0) = false := decide_eq_false (by omega)
        have t5 : decide (X < B) = true := decide_eq_true (by have := j.2.2.1; have := j.2.2.2; omega)
        clear j hz hX0 hB0 hb0
        go_enter Try.func8, Try.ntmps8
        go_wp2_with fail
        refine (c1.out _).mono ?_
        rintro e w' ⟨rfl, g1⟩
        go_wp2_with fail
        refine (c2.out _).mono ?_
        rintro e w' ⟨rfl, g2⟩
        go_wp2_with fail
        refine (c3.out _).mono ?_
        rintro e w' ⟨rfl, g3⟩
        go_wp2_with fail
        refine (c4.out _).mono ?_
        rintro e w' ⟨rfl, g4⟩
        go_wp2_with fail
        refine (c5.out _).mono ?_
        rintro e w' ⟨rfl, g5⟩
        go_wp2_with fail
        refine (c6.out _).mono ?_
        rintro e w' ⟨rfl, g6⟩
        go_wp2_with fail
        refine (c7.out _).mono ?_
        rintro e w' ⟨rfl, g7⟩
        go_wp2_with fail
        refine (c8.out _).mono ?_
        rintro e w' ⟨rfl, g8⟩
        go_wp2_with fail
        refine (awake_any _).mono ?_
        rintro e w' ⟨rfl, g9⟩
        go_wp2
        go_ret
        exact ⟨ret_same (by simp), (by repeat (first | exact Below.refl _ _ | refine bs_drew ?_ | refine bs_drewN ?_ _ | (refine bs_step ?_ (by assumption))))⟩
    · rcases Int.lt_or_gt_of_ne hz with hB0 | hB0
      · have t1 : (X == 0) = false := by rw [beq_eq_false_iff_ne]; omega
        have t1' : (X != 0) = true := by rw [bne_iff_ne]; omega
        have t2 : decide (X < 0) = false := decide_eq_false (by omega)
        have t3 : decide (A < 0) = false := decide_eq_false (by have := j.1; have := j.2.1; omega)
        have t4 : decide (B < 0) = true := decide_eq_true (by omega)
        have t5 : decide (X < -B) = true := decide_eq_true (by have := j.2.2.1; have := j.2.2.2; omega)
        have t7 : IntKind.i64.wrap (-B) = -B := IntWalk.i64_in _ (by omega)
        clear j hz hX0 hB0 hb0
        go_enter Try.func8, Try.ntmps8
        go_wp2_with fail
        refine (c1.out _).mono ?_
        rintro e w' ⟨rfl, g1⟩
        go_wp2_with fail
        refine (c2.out _).mono ?_
        rintro e w' ⟨rfl, g2⟩
        go_wp2_with fail
        refine (c3.out _).mono ?_
        rintro e w' ⟨rfl, g3⟩
        go_wp2_with fail
        refine (c4.out _).mono ?_
        rintro e w' ⟨rfl, g4⟩
        go_wp2_with fail
        refine (c5.out _).mono ?_
        rintro e w' ⟨rfl, g5⟩
        go_wp2_with fail
        refine (c6.out _).mono ?_
        rintro e w' ⟨rfl, g6⟩
        go_wp2_with fail
        refine (c7.out _).mono ?_
        rintro e w' ⟨rfl, g7⟩
        go_wp2_with fail
        refine (c8.out _).mono ?_
        rintro e w' ⟨rfl, g8⟩
        go_wp2_with fail
        refine (awake_any _).mono ?_
        rintro e w' ⟨rfl, g9⟩
        go_wp2
        go_ret
        exact ⟨ret_same (by simp), (by repeat (first | exact Below.refl _ _ | refine bs_drew ?_ | refine bs_drewN ?_ _ | (refine bs_step ?_ (by assumption))))⟩
      · have t1 : (X == 0) = false := by rw [beq_eq_false_iff_ne]; omega
        have t1' : (X != 0) = true := by rw [bne_iff_ne]; omega
        have t2 : decide (X < 0) = false := decide_eq_false (by omega)
        have t3 : decide (A < 0) = false := decide_eq_false (by have := j.1; have := j.2.1; omega)
        have t4 : decide (B < 0) = false := decide_eq_false (by omega)
        have t5 : decide (X < B) = true := decide_eq_true (by have := j.2.2.1; have := j.2.2.2; omega)
        clear j hz hX0 hB0 hb0
        go_enter Try.func8, Try.ntmps8
        go_wp2_with fail
        refine (c1.out _).mono ?_
        rintro e w' ⟨rfl, g1⟩
        go_wp2_with fail
        refine (c2.out _).mono ?_
        rintro e w' ⟨rfl, g2⟩
        go_wp2_with fail
        refine (c3.out _).mono ?_
        rintro e w' ⟨rfl, g3⟩
        go_wp2_with fail
        refine (c4.out _).mono ?_
        rintro e w' ⟨rfl, g4⟩
        go_wp2_with fail
        refine (c5.out _).mono ?_
        rintro e w' ⟨rfl, g5⟩
        go_wp2_with fail
        refine (c6.out _).mono ?_
        rintro e w' ⟨rfl, g6⟩
        go_wp2_with fail
        refine (c7.out _).mono ?_
        rintro e w' ⟨rfl, g7⟩
        go_wp2_with fail
        refine (c8.out _).mono ?_
        rintro e w' ⟨rfl, g8⟩
        go_wp2_with fail
        refine (awake_any _).mono ?_
        rintro e w' ⟨rfl, g9⟩
        go_wp2
        go_ret
        exact ⟨ret_same (by simp), (by repeat (first | exact Below.refl _ _ | refine bs_drew ?_ | refine bs_drewN ?_ _ | (refine bs_step ?_ (by assumption))))⟩

/-! ### THE ROW's STEP: WRITTEN OUT: LEAVE IT -/
set_option maxRecDepth 100000 in
theorem lifted (os : Os) (started : os.Started) (H : Type) (enc : TypeId × Value → H) :
    ReturnsInHanded {} Try.checked os 8 .any (Rows.aluDividesSpec.pre6 enc Try.prog Try.f8 Rows.aluDividesRow.domain false) (Rows.aluDividesSpec.post enc Try.prog Try.f8 false true false false) := by
  refine returnsInHanded_of_change (C := Try.checked) own started (by kernel_rfl) Try.func8
    (ChangeSpec.witness6 (enc := enc) (C := Try.checked) false ⟨#[], #[.int .u32 0, .int .u32 0], []⟩ 8 (by kernel_rfl) (by kernel_rfl) (by kernel_rfl) (by kernel_rfl)) ?_
  intro W base args ds gs before hval0 hW hcnd _
  have hval : ∀ (j : Nat) t v, Try.f8.params[j]? = some t → args[j]? = some v → Value.okWide Try.prog W .any base t v := hval0
  have hW' := hW
  obtain ⟨p, q, hA0, hV, rfl, hfz, hnd⟩ := hW
  have hA : DataW.TrodAll enc Try.prog W 0 (fun _ => true) true Try.f8.params.toList args.toList ds p := hA0
  rw [Try.params8] at hA hval
  obtain ⟨v0, vs0, d0, ds0, p0, q0, hargs, rfl, rfl, h0, r0⟩ := trodAll_cons hA
  obtain ⟨v1, vs1, d1, ds1, p1, q1, rfl, rfl, rfl, h1, r1⟩ := trodAll_cons r0
  obtain ⟨rfl, rfl, rfl⟩ := trodAll_nil r1
  obtain rfl : args = #[v0, v1] := by cases args; simp_all
  obtain ⟨rfl, rfl⟩ := trodVars_none hV
  obtain ⟨a0, rfl, rfl, rfl, w0⟩ := open_int Try.underlying22 (hval 0 22 v0 rfl rfl) h0
  obtain ⟨a1, rfl, rfl, rfl, w1⟩ := open_int Try.underlying22 (hval 1 22 v1 rfl rfl) h1
  clear hA0 hval0
  simp only [List.append_nil] at hW'
  refine (walk a0 a1 w0 w1 W).mono fun e W' ⟨he, hg⟩ => ?_
  subst he
  exact ⟨_, rfl, _, _, _, [], [], [], hW', (trodAll_cons_mk (shut_bool Try.underlying4 _) trodAll_mk0), (trodAll_cons_mk (shut_int Try.underlying22 w0) (trodAll_cons_mk (shut_int Try.underlying22 w1) trodAll_mk0)), rfl, hg.frame _, fun h => by cases h⟩

theorem over : Rows.aluDividesRow.holds Try.pinned (OpenSpec.ofChange Rows.aluDividesSpec) :=
  OpenClaim.holds_of_wide 8 Try.f8 rfl rfl rfl rfl rfl rfl rfl ⟨rfl, rfl, rfl, rfl, rfl⟩ rfl rfl rfl rfl rfl (by kernel_rfl) Try.func8 (by kernel_rfl)
    (of_decide_eq_true (by kernel_rfl)) (by unfold Func.isWrapper; first | (rw [if_pos (by decide +kernel)]; kernel_rfl) | (rw [if_neg (by decide +kernel)]; exact ⟨rfl, rfl⟩))
    (fun os started H enc _ => lifted os started H enc)

/-- ████ THE STATEMENT ████ -/
theorem proved : Rows.AluDividesSaid :=
  over
#print axioms proved
end Go.Proofs.Ytfgbjaejkfkmmaa.aluDivides
