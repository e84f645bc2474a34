/- PROVED: SingleNames: the numbers of the sorts, the sides and the error, and the examples; closed; no condition. -/
import Derived.Test.YtllchfdddfmjbaaRows
import Derived.WalkKit
import Derived.ProofKit
import Derived.OpenShut
import Derived.ChangeOld
import Derived.Below
import Derived.Test.YtllchfdddfmjbaaNames
namespace Go.Proofs.Ytllchfdddfmjbaa.singleNames
open Go.ChangeShapes Go.WideShapes Go.ChangeAt Go.RowKit
set_option linter.unusedVariables false      -- a walk need not use every 'w<i>' (that an integer argument fits its kind)

theorem own : ownKnob Try.prog.godebug = none := by kernel_rfl

/-! ### THE WALK -/
set_option maxRecDepth 100000 in
set_option maxHeartbeats 1000000 in
theorem walk  (w : World) :
    Calls Try.prog 4 #[] w fun e w' => e = .returned (.bool true) ∧ Below w.heap.size w w' := by
  have s0 := fun W => Split_any 2147483649 (by decide) W
  rw [show parD (Ieee.single.read 2147483649) = pval 3 true 1 (-149) from (parts_of 2147483649).2.2.1 (by decide)] at s0
  unfold pval at s0
  have S0 := Lib.hid s0
  clear s0
  have A1 := Lib.hid (fun W => Above_is 2139095039 2139095040 (by decide) (by decide) W)
  have A2 := Lib.hid (fun W => Above_is 2147483649 2147483648 (by decide) (by decide) W)
  have A3 := Lib.hid (fun W => Below_is 0 2147483649 (by decide) (by decide) W)
  have B1 := Lib.hid (fun W => Sum_is 1036831949 1045220557 1050253722 (by decide +kernel) W)
  have B2 := Lib.hid (fun W => Sum_is 2139095040 4286578688 2143289344 (by decide +kernel) W)
  have B3 := Lib.hid (fun W => Sum_is 1065353216 3212836864 0 (by decide +kernel) W)
  have B4 := Lib.hid (fun W => Sum_is 2147483648 2147483648 2147483648 (by decide +kernel) W)
  have B5 := Lib.hid (fun W => Product_is 3 1056964608 2 (by decide +kernel) W)
  have B6 := Lib.hid (fun W => Ratio_is 1065353216 2147483648 4286578688 (by decide +kernel) W)
  have B7 := Lib.hid (fun W => Root_is 1073741824 1068827891 (by decide) (by decide +kernel) W)
  have T1 := Lib.hid (fun W => Toward_is 3227516928 (-3) (by decide +kernel) W)
  have T2 := Lib.hid (fun W => Toward_is 1325400064 2147483647 (by decide +kernel) W)
  have T3 := Lib.hid (fun W => Toward_is 2143289344 0 (by decide +kernel) W)
  have n0 := fun W => Narrow_some 4591870180066957722 1036831949 (by decide +kernel) W
  rw [show clean 1036831949 = 1036831949 from by decide +kernel] at n0
  have N0 := Lib.hid n0
  clear n0
  have D0 := Lib.hid (fun W => Stand_is 2147483648 0 3 (by decide +kernel) W)
  go_enter Try.func4, Try.ntmps4
  go_wp2_with fail
  refine (awake_any _).mono ?_
  rintro e w' ⟨rfl, n1, rfl⟩
  go_wp2_with fail
  refine (S0.out _).mono ?_
  rintro e w1 ⟨rfl, hB⟩
  go_wp2_with fail
  refine (rd_1 _).mono ?_
  rintro e w' ⟨rfl, k1, rfl⟩
  go_wp2_with fail
  refine (rd_2 _).mono ?_
  rintro e w' ⟨rfl, k2, rfl⟩
  go_wp2_with fail
  refine (rd_3 _).mono ?_
  rintro e w' ⟨rfl, k3, rfl⟩
  go_wp2_with fail
  refine (rd_4 _).mono ?_
  rintro e w' ⟨rfl, k4, rfl⟩
  go_wp2_with fail
  refine (rd_5 _).mono ?_
  rintro e w' ⟨rfl, k5, rfl⟩
  go_wp2_with fail
  refine (A1.out _).mono ?_
  rintro e w' ⟨rfl, rfl⟩
  go_wp2_with fail
  refine (A2.out _).mono ?_
  rintro e w' ⟨rfl, rfl⟩
  go_wp2_with fail
  refine (A3.out _).mono ?_
  rintro e w' ⟨rfl, rfl⟩
  go_wp2_with fail
  refine (B1.out _).mono ?_
  rintro e w' ⟨rfl, q1, rfl⟩
  go_wp2_with fail
  refine (B2.out _).mono ?_
  rintro e w' ⟨rfl, q2, rfl⟩
  go_wp2_with fail
  refine (B3.out _).mono ?_
  rintro e w' ⟨rfl, q3, rfl⟩
  go_wp2_with fail
  refine (B4.out _).mono ?_
  rintro e w' ⟨rfl, q4, rfl⟩
  go_wp2_with fail
  refine (B5.out _).mono ?_
  rintro e w' ⟨rfl, q5, rfl⟩
  go_wp2_with fail
  refine (B6.out _).mono ?_
  rintro e w' ⟨rfl, q6, rfl⟩
  go_wp2_with fail
  refine (B7.out _).mono ?_
  rintro e w' ⟨rfl, q7, rfl⟩
  go_wp2_with fail
  refine (T1.out _).mono ?_
  rintro e w' ⟨rfl, rfl⟩
  go_wp2_with fail
  refine (T2.out _).mono ?_
  rintro e w' ⟨rfl, rfl⟩
  go_wp2_with fail
  refine (T3.out _).mono ?_
  rintro e w' ⟨rfl, rfl⟩
  go_wp2_with fail
  refine (N0.out _).mono ?_
  rintro e w' ⟨rfl, rfl⟩
  go_wp2_with fail
  refine (D0.out _).mono ?_
  rintro e w' ⟨rfl, rfl⟩
  go_wp2
  go_ret
  refine ⟨rfl, ?_⟩
  repeat (first | exact Below.refl _ _ | refine bs_alloc ?_ _ | refine bs_drew ?_ | refine bs_drewN ?_ _ | (refine bs_step ?_ (by assumption)))

/-! ### THE ROW's STEP: WRITTEN OUT: LEAVE IT -/
set_option maxRecDepth 100000 in
theorem lifted (os : Os) (started : os.Started) (H : Type) (enc : TypeId × Value → H) :
    ReturnsInHanded {} Try.checked os 4 .any (Rows.singleNamesSpec.pre6 enc Try.prog Try.f4 Rows.singleNamesRow.domain false) (Rows.singleNamesSpec.post enc Try.prog Try.f4 false true false false) := by
  refine returnsInHanded_of_change (C := Try.checked) own started (by kernel_rfl) Try.func4
    (ChangeSpec.witness6 (enc := enc) (C := Try.checked) false ⟨#[], #[], []⟩ 8 (by kernel_rfl) (by kernel_rfl) (by kernel_rfl) (by kernel_rfl)) ?_
  intro W base args ds gs before hval0 hW hcnd _
  have hval : ∀ (j : Nat) t v, Try.f4.params[j]? = some t → args[j]? = some v → Value.okWide Try.prog W .any base t v := hval0
  have hW' := hW
  obtain ⟨p, q, hA0, hV, rfl, hfz, hnd⟩ := hW
  have hA : DataW.TrodAll enc Try.prog W 0 (fun _ => true) true Try.f4.params.toList args.toList ds p := hA0
  rw [Try.params4] at hA hval
  obtain ⟨rfl, rfl, rfl⟩ := trodAll_none hA
  obtain ⟨rfl, rfl⟩ := trodVars_none hV
  clear hA0 hval0
  simp only [List.append_nil] at hW'
  refine (walk  W).mono fun e W' ⟨he, hg⟩ => ?_
  subst he
  exact ⟨_, rfl, _, _, _, [], [], [], hW', (trodAll_cons_mk (shut_bool Try.underlying4 _) trodAll_mk0), rfl, rfl, hg.frame _, fun h => by cases h⟩

theorem over : Rows.singleNamesRow.holds Try.pinned (OpenSpec.ofChange Rows.singleNamesSpec) :=
  OpenClaim.holds_of_wide 4 Try.f4 rfl rfl rfl rfl rfl rfl rfl ⟨rfl, rfl, rfl, rfl, rfl⟩ rfl rfl rfl rfl rfl (by kernel_rfl) Try.func4 (by kernel_rfl)
    (of_decide_eq_true (by kernel_rfl)) (by unfold Func.isWrapper; first | (rw [if_pos (by decide +kernel)]; kernel_rfl) | (rw [if_neg (by decide +kernel)]; exact ⟨rfl, rfl⟩))
    (fun os started H enc _ => lifted os started H enc)

/-- ████ THE STATEMENT ████ -/
theorem proved : Rows.SingleNamesSaid :=
  over
#print axioms proved
end Go.Proofs.Ytllchfdddfmjbaa.singleNames
