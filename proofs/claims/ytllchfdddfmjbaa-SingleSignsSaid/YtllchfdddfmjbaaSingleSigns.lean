/- PROVED: SingleSigns: the order of the operands does not matter to the program's sum and product, and signs that are turned are turned in the answer; no condition. -/
import Derived.Test.YtllchfdddfmjbaaRows
import Derived.WalkKit
import Derived.ProofKit
import Derived.OpenShut
import Derived.ChangeOld
import Derived.Below
import Derived.Test.YtllchfdddfmjbaaOne
namespace Go.Proofs.Ytllchfdddfmjbaa.singleSigns
open Go.ChangeShapes Go.WideShapes Go.ChangeAt Go.RowKit
set_option linter.unusedVariables false      -- a walk need not use every 'w<i>' (that an integer argument fits its kind)

theorem own : ownKnob Try.prog.godebug = none := by kernel_rfl

/-! ### THE WALK -/
theorem walk (a0 : Int) (a1 : Int) (w0 : (Lit.int .u32 a0).wf = true) (w1 : (Lit.int .u32 a1).wf = true) (w : World) :
    Calls Try.prog 8 #[.int .u32 a0, .int .u32 a1] w fun e w' => e = .returned (.bool true) ∧ Below w.heap.size w w' := by
  have b0 := bounds_u32 w0
  have b1 := bounds_u32 w1
  obtain ⟨x, rfl⟩ := Int.eq_ofNat_of_zero_le b0.1
  obtain ⟨y, rfl⟩ := Int.eq_ofNat_of_zero_le b1.1
  have hx : x ≤ 4294967295 := by omega
  have hy : y ≤ 4294967295 := by omega
  obtain ⟨S, hS⟩ : ∃ r, sumW x y = r := ⟨_, rfl⟩
  obtain ⟨P, hP⟩ : ∃ r, productW x y = r := ⟨_, rfl⟩
  obtain ⟨Q, hQ⟩ : ∃ r, ratioW x y = r := ⟨_, rfl⟩
  obtain ⟨X, hX⟩ : ∃ r, turnW x = r := ⟨_, rfl⟩
  obtain ⟨Y, hY⟩ : ∃ r, turnW y = r := ⟨_, rfl⟩
  obtain ⟨R, hR⟩ : ∃ r, restW x y = r := ⟨_, rfl⟩
  obtain ⟨P1, hP1⟩ : ∃ r, turnW P = r := ⟨_, rfl⟩
  obtain ⟨P2, hP2⟩ : ∃ r, oneW P1 = r := ⟨_, rfl⟩
  obtain ⟨Q1, hQ1⟩ : ∃ r, turnW Q = r := ⟨_, rfl⟩
  obtain ⟨Q2, hQ2⟩ : ∃ r, oneW Q1 = r := ⟨_, rfl⟩
  obtain ⟨S1, hS1⟩ : ∃ r, turnW S = r := ⟨_, rfl⟩
  obtain ⟨S2, hS2⟩ : ∃ r, oneW S1 = r := ⟨_, rfl⟩
  have hSl : S ≤ 4294967295 := hS ▸ sumW_le x y
  have hPl : P ≤ 4294967295 := hP ▸ productW_le x y
  have hQl : Q ≤ 4294967295 := hQ ▸ ratioW_le x y
  have c1 := Lib.hid (fun W => Sum_is x y S hS W)
  have c2 := Lib.hid (fun W => Product_is x y P hP W)
  have c3 := Lib.hid (fun W => Ratio_is x y Q hQ W)
  have c4 := Lib.hid (fun W => Turned_is x X hx hX W)
  have c5 := Lib.hid (fun W => Turned_is y Y hy hY W)
  have c6 := Lib.hid (fun W => Sum_is y x S (by rw [sumW_comm]; exact hS) W)
  have c7 := Lib.hid (fun W => Product_is y x P (by rw [productW_comm]; exact hP) W)
  have c8 := Lib.hid (fun W => Rest_is x y R hR W)
  have c9 := Lib.hid (fun W => Sum_is x Y R (by rw [← hY, ← restW_turn x y hy]; exact hR) W)
  have d1 := Lib.hid (fun W => Product_is X y P2 (by rw [← hX, productW_left x y hx, hP, hP1, hP2]) W)
  have d2 := Lib.hid (fun W => Product_is x Y P2 (by rw [← hY, productW_right x y hy, hP, hP1, hP2]) W)
  have d3 := Lib.hid (fun W => Turned_is P P1 hPl hP1 W)
  have d4 := Lib.hid (fun W => one_any P1 P2 (hP1 ▸ turnW_lt hPl) hP2 W)
  have d5 := Lib.hid (fun W => Ratio_is X y Q2 (by rw [← hX, ratioW_left x y hx, hQ, hQ1, hQ2]) W)
  have d6 := Lib.hid (fun W => Ratio_is x Y Q2 (by rw [← hY, ratioW_right x y hy, hQ, hQ1, hQ2]) W)
  have d7 := Lib.hid (fun W => Turned_is Q Q1 hQl hQ1 W)
  have d8 := Lib.hid (fun W => one_any Q1 Q2 (hQ1 ▸ turnW_lt hQl) hQ2 W)
  have d9 := Lib.hid (fun W => Turned_is S S1 hSl hS1 W)
  have e1 := Lib.hid (fun W => one_any S1 S2 (hS1 ▸ turnW_lt hSl) hS2 W)
  have e2 := Lib.hid (show S % 2147483648 = 0 ∨ ∀ W, Calls Try.prog 14 #[.int .u32 (X : Int), .int .u32 (Y : Int)] W (Got W (.int .u32 (S2 : Nat))) from by
    rcases sumW_turn x y hx hy with h | h
    · left; rw [← hS]; exact h
    · right; intro W; exact Sum_is X Y S2 (by rw [← hX, ← hY, h, hS, hS1, hS2]) W)
  have hz := bits_low S hSl
  obtain ⟨z, hzz⟩ : ∃ z, S % 2147483648 = z := ⟨_, rfl⟩
  rw [hzz] at hz
  have e3 := Lib.hid (hzz ▸ e2.out)
  clear b0 b1 w0 w1 hS hP hQ hX hY hR hP1 hP2 hQ1 hQ2 hS1 hS2 hSl hPl hQl hx hy hzz e2
  by_cases h0 : z = 0
  · subst h0
    clear e3
    go_enter Try.func8, Try.ntmps8
    go_wp2_with fail
    refine (c1.out _).mono ?_
    rintro e w' ⟨rfl, n1, rfl⟩
    go_wp2_with fail
    refine (c2.out _).mono ?_
    rintro e w' ⟨rfl, n2, rfl⟩
    go_wp2_with fail
    refine (c3.out _).mono ?_
    rintro e w' ⟨rfl, n3, rfl⟩
    go_wp2_with fail
    refine (c4.out _).mono ?_
    rintro e w' ⟨rfl, rfl⟩
    go_wp2_with fail
    refine (c5.out _).mono ?_
    rintro e w' ⟨rfl, rfl⟩
    go_wp2_with fail
    refine (c6.out _).mono ?_
    rintro e w' ⟨rfl, n4, rfl⟩
    go_wp2_with fail
    refine (c7.out _).mono ?_
    rintro e w' ⟨rfl, n5, rfl⟩
    go_wp2_with fail
    refine (c8.out _).mono ?_
    rintro e w' ⟨rfl, n6, rfl⟩
    go_wp2_with fail
    refine (c9.out _).mono ?_
    rintro e w' ⟨rfl, n7, rfl⟩
    go_wp2_with fail
    refine (d1.out _).mono ?_
    rintro e w' ⟨rfl, n8, rfl⟩
    go_wp2_with fail
    refine (d3.out _).mono ?_
    rintro e w' ⟨rfl, rfl⟩
    go_wp2_with fail
    refine (d4.out _).mono ?_
    rintro e w' ⟨rfl, rfl⟩
    go_wp2_with fail
    refine (d2.out _).mono ?_
    rintro e w' ⟨rfl, n9, rfl⟩
    go_wp2_with fail
    refine (d3.out _).mono ?_
    rintro e w' ⟨rfl, rfl⟩
    go_wp2_with fail
    refine (d4.out _).mono ?_
    rintro e w' ⟨rfl, rfl⟩
    go_wp2_with fail
    refine (d5.out _).mono ?_
    rintro e w' ⟨rfl, m1, rfl⟩
    go_wp2_with fail
    refine (d7.out _).mono ?_
    rintro e w' ⟨rfl, rfl⟩
    go_wp2_with fail
    refine (d8.out _).mono ?_
    rintro e w' ⟨rfl, rfl⟩
    go_wp2_with fail
    refine (d6.out _).mono ?_
    rintro e w' ⟨rfl, m2, rfl⟩
    go_wp2_with fail
    refine (d7.out _).mono ?_
    rintro e w' ⟨rfl, rfl⟩
    go_wp2_with fail
    refine (d8.out _).mono ?_
    rintro e w' ⟨rfl, rfl⟩
    go_wp2_with fail
    refine (awake_any _).mono ?_
    rintro e w' ⟨rfl, m3, rfl⟩
    go_wp2
    go_ret
    exact ⟨ret_eq (by simp), below_drewN (Below.refl _ _) _⟩
  · have hzb : ((z : Int) == 0) = false := by rw [beq_eq_false_iff_ne]; omega
    have e4 := Lib.hid (e3.out.resolve_left h0)
    clear e3 h0
    go_enter Try.func8, Try.ntmps8
    go_wp2_with fail
    refine (c1.out _).mono ?_
    rintro e w' ⟨rfl, n1, rfl⟩
    go_wp2_with fail
    refine (c2.out _).mono ?_
    rintro e w' ⟨rfl, n2, rfl⟩
    go_wp2_with fail
    refine (c3.out _).mono ?_
    rintro e w' ⟨rfl, n3, rfl⟩
    go_wp2_with fail
    refine (c4.out _).mono ?_
    rintro e w' ⟨rfl, rfl⟩
    go_wp2_with fail
    refine (c5.out _).mono ?_
    rintro e w' ⟨rfl, rfl⟩
    go_wp2_with fail
    refine (c6.out _).mono ?_
    rintro e w' ⟨rfl, n4, rfl⟩
    go_wp2_with fail
    refine (c7.out _).mono ?_
    rintro e w' ⟨rfl, n5, rfl⟩
    go_wp2_with fail
    refine (c8.out _).mono ?_
    rintro e w' ⟨rfl, n6, rfl⟩
    go_wp2_with fail
    refine (c9.out _).mono ?_
    rintro e w' ⟨rfl, n7, rfl⟩
    go_wp2_with fail
    refine (d1.out _).mono ?_
    rintro e w' ⟨rfl, n8, rfl⟩
    go_wp2_with fail
    refine (d3.out _).mono ?_
    rintro e w' ⟨rfl, rfl⟩
    go_wp2_with fail
    refine (d4.out _).mono ?_
    rintro e w' ⟨rfl, rfl⟩
    go_wp2_with fail
    refine (d2.out _).mono ?_
    rintro e w' ⟨rfl, n9, rfl⟩
    go_wp2_with fail
    refine (d3.out _).mono ?_
    rintro e w' ⟨rfl, rfl⟩
    go_wp2_with fail
    refine (d4.out _).mono ?_
    rintro e w' ⟨rfl, rfl⟩
    go_wp2_with fail
    refine (d5.out _).mono ?_
    rintro e w' ⟨rfl, m1, rfl⟩
    go_wp2_with fail
    refine (d7.out _).mono ?_
    rintro e w' ⟨rfl, rfl⟩
    go_wp2_with fail
    refine (d8.out _).mono ?_
    rintro e w' ⟨rfl, rfl⟩
    go_wp2_with fail
    refine (d6.out _).mono ?_
    rintro e w' ⟨rfl, m2, rfl⟩
    go_wp2_with fail
    refine (d7.out _).mono ?_
    rintro e w' ⟨rfl, rfl⟩
    go_wp2_with fail
    refine (d8.out _).mono ?_
    rintro e w' ⟨rfl, rfl⟩
    go_wp2_with fail
    refine (e4.out _).mono ?_
    rintro e w' ⟨rfl, m4, rfl⟩
    go_wp2_with fail
    refine (d9.out _).mono ?_
    rintro e w' ⟨rfl, rfl⟩
    go_wp2_with fail
    refine (e1.out _).mono ?_
    rintro e w' ⟨rfl, rfl⟩
    go_wp2_with fail
    refine (awake_any _).mono ?_
    rintro e w' ⟨rfl, m3, rfl⟩
    go_wp2
    go_ret
    exact ⟨ret_eq (by simp), below_drewN (Below.refl _ _) _⟩

/-! ### THE ROW's STEP: WRITTEN OUT: LEAVE IT -/
set_option maxRecDepth 100000 in
theorem lifted (os : Os) (started : os.Started) (H : Type) (enc : TypeId × Value → H) :
    ReturnsInHanded {} Try.checked os 8 .any (Rows.singleSignsSpec.pre6 enc Try.prog Try.f8 Rows.singleSignsRow.domain false) (Rows.singleSignsSpec.post enc Try.prog Try.f8 false true false false) := by
  refine returnsInHanded_of_change (C := Try.checked) own started (by kernel_rfl) Try.func8
    (ChangeSpec.witness6 (enc := enc) (C := Try.checked) false ⟨#[], #[.int .u32 0, .int .u32 0], []⟩ 8 (by kernel_rfl) (by kernel_rfl) (by kernel_rfl) (by kernel_rfl)) ?_
  intro W base args ds gs before hval0 hW hcnd _
  have hval : ∀ (j : Nat) t v, Try.f8.params[j]? = some t → args[j]? = some v → Value.okWide Try.prog W .any base t v := hval0
  have hW' := hW
  obtain ⟨p, q, hA0, hV, rfl, hfz, hnd⟩ := hW
  have hA : DataW.TrodAll enc Try.prog W 0 (fun _ => true) true Try.f8.params.toList args.toList ds p := hA0
  rw [Try.params8] at hA hval
  obtain ⟨v0, vs0, d0, ds0, p0, q0, hargs, rfl, rfl, h0, r0⟩ := trodAll_cons hA
  obtain ⟨v1, vs1, d1, ds1, p1, q1, rfl, rfl, rfl, h1, r1⟩ := trodAll_cons r0
  obtain ⟨rfl, rfl, rfl⟩ := trodAll_nil r1
  obtain rfl : args = #[v0, v1] := by cases args; simp_all
  obtain ⟨rfl, rfl⟩ := trodVars_none hV
  obtain ⟨a0, rfl, rfl, rfl, w0⟩ := open_int Try.underlying23 (hval 0 23 v0 rfl rfl) h0
  obtain ⟨a1, rfl, rfl, rfl, w1⟩ := open_int Try.underlying23 (hval 1 23 v1 rfl rfl) h1
  clear hA0 hval0
  simp only [List.append_nil] at hW'
  refine (walk a0 a1 w0 w1 W).mono fun e W' ⟨he, hg⟩ => ?_
  subst he
  exact ⟨_, rfl, _, _, _, [], [], [], hW', (trodAll_cons_mk (shut_bool Try.underlying4 _) trodAll_mk0), (trodAll_cons_mk (shut_int Try.underlying23 w0) (trodAll_cons_mk (shut_int Try.underlying23 w1) trodAll_mk0)), rfl, hg.frame _, fun h => by cases h⟩

theorem over : Rows.singleSignsRow.holds Try.pinned (OpenSpec.ofChange Rows.singleSignsSpec) :=
  OpenClaim.holds_of_wide 8 Try.f8 rfl rfl rfl rfl rfl rfl rfl ⟨rfl, rfl, rfl, rfl, rfl⟩ rfl rfl rfl rfl rfl (by kernel_rfl) Try.func8 (by kernel_rfl)
    (of_decide_eq_true (by kernel_rfl)) (by unfold Func.isWrapper; first | (rw [if_pos (by decide +kernel)]; kernel_rfl) | (rw [if_neg (by decide +kernel)]; exact ⟨rfl, rfl⟩))
    (fun os started H enc _ => lifted os started H enc)

/-- ████ THE STATEMENT ████ -/
theorem proved : Rows.SingleSignsSaid :=
  over
#print axioms proved
end Go.Proofs.Ytllchfdddfmjbaa.singleSigns
