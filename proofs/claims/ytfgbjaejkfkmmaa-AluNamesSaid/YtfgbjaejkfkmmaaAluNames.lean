/- PROVED: AluNames: the errors' numbers and the examples; the statement is closed. -/
import Derived.Test.YtfgbjaejkfkmmaaRows
import Derived.WalkKit
import Derived.ProofKit
import Derived.OpenShut
import Derived.ChangeOld
import Derived.Below
import Derived.Test.YtfgbjaejkfkmmaaAluP
namespace Go.Proofs.Ytfgbjaejkfkmmaa.aluNames
open Go.ChangeShapes Go.WideShapes Go.ChangeAt Go.RowKit
set_option linter.unusedVariables false      -- a walk need not use every 'w<i>' (that an integer argument fits its kind)

theorem own : ownKnob Try.prog.godebug = none := by kernel_rfl

/-! ### THE WALK -/
set_option maxRecDepth 100000 in
set_option maxHeartbeats 4000000 in
theorem walk  (w : World) :
    Calls Try.prog 13 #[] w fun e w' => e = .returned (.bool true) ∧ Below w.heap.size w w' := by
  have a1 := Lib.hid (fun W => one_37 32768 4294934528 (by decide) (by decide +kernel) W)
  have a2 := Lib.hid (fun W => one_38 2147483648 2147483648 (by decide) (by decide +kernel) W)
  have a3 := Lib.hid (fun W => one_49 0 4294967295 (by decide) (by decide +kernel) W)
  have a4 := Lib.hid (fun W => one_58 4294967295 3212836864 (by decide) (by decide +kernel) W)
  have a5 := Lib.hid (fun W => one_59 2143289344 0 (by decide) (by decide +kernel) W)
  have a6 := Lib.hid (fun W => two_40 2 5 4294967293 (by decide) (by decide) (by decide +kernel) W)
  have a7 := Lib.hid (fun W => two_42 4294967289 2 4294967293 (by decide) (by decide) (by decide +kernel) (by decide +kernel) W)
  have a8 := Lib.hid (fun W => two_44 4294967289 2 4294967295 (by decide) (by decide) (by decide +kernel) (by decide +kernel) W)
  have a9 := Lib.hid (fun W => two_43 4294967289 2 2147483644 (by decide) (by decide) (by decide) (by decide +kernel) W)
  have b1 := Lib.hid (fun W => two_42 2147483648 4294967295 2147483648 (by decide) (by decide) (by decide +kernel) (by decide +kernel) W)
  have b2 := Lib.hid (fun W => two_44 2147483648 4294967295 0 (by decide) (by decide) (by decide +kernel) (by decide +kernel) W)
  have b3 := Lib.hid (fun W => two_51 2147483648 31 4294967295 (by decide) (by decide) (by decide +kernel) W)
  have b4 := Lib.hid (fun W => two_52 2147483648 31 1 (by decide) (by decide) (by decide +kernel) W)
  have b5 := Lib.hid (fun W => two_57 1065353216 0 2139095040 (by decide +kernel) W)
  have b6 := Lib.hid (fun W => is_19 4294967295 0 false (by decide +kernel) W)
  have b7 := Lib.hid (fun W => is_13 2147483648 0 false (by decide +kernel) W)
  have b8 := Lib.hid (fun W => is_23 2147483648 0 true (by decide +kernel) W)
  have b9 := Lib.hid (fun W => is_26 2143289344 2143289344 false (by decide +kernel) W)
  have d1 := Lib.hid (fun W => un_other 39 1 (by decide) (by decide) (by decide) (by decide) (by decide) (by decide) (by decide) W)
  go_enter Try.func13, Try.ntmps13
  go_wp2_with fail
  refine (awake_any _).mono ?_
  rintro e w' ⟨rfl, g0⟩
  go_wp2_with fail
  refine (a1.out _).mono ?_
  rintro e w' ⟨rfl, rfl⟩
  go_wp2_with fail
  refine (a2.out _).mono ?_
  rintro e w' ⟨rfl, rfl⟩
  go_wp2_with fail
  refine (a3.out _).mono ?_
  rintro e w' ⟨rfl, rfl⟩
  go_wp2_with fail
  refine (a4.out _).mono ?_
  rintro e w' ⟨rfl, rfl⟩
  go_wp2_with fail
  refine (a5.out _).mono ?_
  rintro e w' ⟨rfl, rfl⟩
  go_wp2_with fail
  refine (a6.out _).mono ?_
  rintro e w' ⟨rfl, g1⟩
  go_wp2_with fail
  refine (a7.out _).mono ?_
  rintro e w' ⟨rfl, g2⟩
  go_wp2_with fail
  refine (a8.out _).mono ?_
  rintro e w' ⟨rfl, g3⟩
  go_wp2_with fail
  refine (a9.out _).mono ?_
  rintro e w' ⟨rfl, g4⟩
  go_wp2_with fail
  refine (b1.out _).mono ?_
  rintro e w' ⟨rfl, g5⟩
  go_wp2_with fail
  refine (b2.out _).mono ?_
  rintro e w' ⟨rfl, g6⟩
  go_wp2_with fail
  refine (b3.out _).mono ?_
  rintro e w' ⟨rfl, g7⟩
  go_wp2_with fail
  refine (b4.out _).mono ?_
  rintro e w' ⟨rfl, g8⟩
  go_wp2_with fail
  refine (b5.out _).mono ?_
  rintro e w' ⟨rfl, g9⟩
  go_wp2_with fail
  refine (b6.out _).mono ?_
  rintro e w' ⟨rfl, rfl⟩
  go_wp2_with fail
  refine (b7.out _).mono ?_
  rintro e w' ⟨rfl, rfl⟩
  go_wp2_with fail
  refine (b8.out _).mono ?_
  rintro e w' ⟨rfl, rfl⟩
  go_wp2_with fail
  refine (b9.out _).mono ?_
  rintro e w' ⟨rfl, rfl⟩
  go_wp2_with fail
  refine (d1.out _).mono ?_
  rintro e w' ⟨rfl, rfl⟩
  go_wp2_with fail
  refine (swap_26 _).mono ?_
  rintro e w' ⟨rfl, rfl⟩
  go_wp2_with fail
  refine (oppo_16 _).mono ?_
  rintro e w' ⟨rfl, rfl⟩
  go_wp2_with fail
  refine (oppo_26 _).mono ?_
  rintro e w' ⟨rfl, rfl⟩
  go_wp2
  go_ret
  exact ⟨ret_same (by simp), by repeat (first | exact Below.refl _ _ | refine bs_drew ?_ | refine bs_drewN ?_ _ | (refine bs_step ?_ (by assumption)))⟩

/-! ### THE ROW's STEP: WRITTEN OUT: LEAVE IT -/
set_option maxRecDepth 100000 in
theorem lifted (os : Os) (started : os.Started) (H : Type) (enc : TypeId × Value → H) :
    ReturnsInHanded {} Try.checked os 13 .any (Rows.aluNamesSpec.pre6 enc Try.prog Try.f13 Rows.aluNamesRow.domain false) (Rows.aluNamesSpec.post enc Try.prog Try.f13 false true false false) := by
  refine returnsInHanded_of_change (C := Try.checked) own started (by kernel_rfl) Try.func13
    (ChangeSpec.witness6 (enc := enc) (C := Try.checked) false ⟨#[], #[], []⟩ 8 (by kernel_rfl) (by kernel_rfl) (by kernel_rfl) (by kernel_rfl)) ?_
  intro W base args ds gs before hval0 hW hcnd _
  have hval : ∀ (j : Nat) t v, Try.f13.params[j]? = some t → args[j]? = some v → Value.okWide Try.prog W .any base t v := hval0
  have hW' := hW
  obtain ⟨p, q, hA0, hV, rfl, hfz, hnd⟩ := hW
  have hA : DataW.TrodAll enc Try.prog W 0 (fun _ => true) true Try.f13.params.toList args.toList ds p := hA0
  rw [Try.params13] at hA hval
  obtain ⟨rfl, rfl, rfl⟩ := trodAll_none hA
  obtain ⟨rfl, rfl⟩ := trodVars_none hV
  clear hA0 hval0
  simp only [List.append_nil] at hW'
  refine (walk  W).mono fun e W' ⟨he, hg⟩ => ?_
  subst he
  exact ⟨_, rfl, _, _, _, [], [], [], hW', (trodAll_cons_mk (shut_bool Try.underlying4 _) trodAll_mk0), rfl, rfl, hg.frame _, fun h => by cases h⟩

theorem over : Rows.aluNamesRow.holds Try.pinned (OpenSpec.ofChange Rows.aluNamesSpec) :=
  OpenClaim.holds_of_wide 13 Try.f13 rfl rfl rfl rfl rfl rfl rfl ⟨rfl, rfl, rfl, rfl, rfl⟩ rfl rfl rfl rfl rfl (by kernel_rfl) Try.func13 (by kernel_rfl)
    (of_decide_eq_true (by kernel_rfl)) (by unfold Func.isWrapper; first | (rw [if_pos (by decide +kernel)]; kernel_rfl) | (rw [if_neg (by decide +kernel)]; exact ⟨rfl, rfl⟩))
    (fun os started H enc _ => lifted os started H enc)

/-- ████ THE STATEMENT ████ -/
theorem proved : Rows.AluNamesSaid :=
  over
#print axioms proved
end Go.Proofs.Ytfgbjaejkfkmmaa.aluNames
