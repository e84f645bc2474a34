/- PROVED: AluTurns: the comparison the other way round, and the contrary one, are the document's; no condition. -/
import Derived.Test.YtfgbjaejkfkmmaaRows
import Derived.WalkKit
import Derived.ProofKit
import Derived.OpenShut
import Derived.ChangeOld
import Derived.Below
import Derived.Test.YtfgbjaejkfkmmaaAluTu
namespace Go.Proofs.Ytfgbjaejkfkmmaa.aluTurns
open Go.ChangeShapes Go.WideShapes Go.ChangeAt Go.RowKit
set_option linter.unusedVariables false      -- a walk need not use every 'w<i>' (that an integer argument fits its kind)

theorem own : ownKnob Try.prog.godebug = none := by kernel_rfl

/-! ### THE WALK -/
set_option maxRecDepth 100000 in
set_option maxHeartbeats 1000000 in
theorem walk (a0 : Int) (w0 : (Lit.int .u8 a0).wf = true) (w : World) :
    Calls Try.prog 7 #[.int .u8 a0] w fun e w' => e = .returned (.bool true) ∧ Below w.heap.size w w' := by
  have b0 := bounds_u8 w0
  by_cases h13 : a0 = 13
  · subst h13; exact turns_13 w
  by_cases h14 : a0 = 14
  · subst h14; exact turns_14 w
  by_cases h15 : a0 = 15
  · subst h15; exact turns_15 w
  by_cases h16 : a0 = 16
  · subst h16; exact turns_16 w
  by_cases h17 : a0 = 17
  · subst h17; exact turns_17 w
  by_cases h18 : a0 = 18
  · subst h18; exact turns_18 w
  by_cases h19 : a0 = 19
  · subst h19; exact turns_19 w
  by_cases h20 : a0 = 20
  · subst h20; exact turns_20 w
  by_cases h21 : a0 = 21
  · subst h21; exact turns_21 w
  by_cases h22 : a0 = 22
  · subst h22; exact turns_22 w
  by_cases h23 : a0 = 23
  · subst h23; exact turns_23 w
  by_cases h24 : a0 = 24
  · subst h24; exact turns_24 w
  by_cases h25 : a0 = 25
  · subst h25; exact turns_25 w
  by_cases h26 : a0 = 26
  · subst h26; exact turns_26 w
  by_cases h27 : a0 = 27
  · subst h27; exact turns_27 w
  by_cases h28 : a0 = 28
  · subst h28; exact turns_28 w
  have hn : ∀ k : Int, a0 ≠ k → (a0 == k) = false := fun k h => by rw [beq_eq_false_iff_ne]; exact h
  exact turns_other a0 (hn _ h13) (hn _ h14) (hn _ h15) (hn _ h16) (hn _ h17) (hn _ h18) (hn _ h19) (hn _ h20) (hn _ h21) (hn _ h22) (hn _ h23) (hn _ h24) (hn _ h25) (hn _ h26) (hn _ h27) (hn _ h28) w

/-! ### THE ROW's STEP: WRITTEN OUT: LEAVE IT -/
set_option maxRecDepth 100000 in
theorem lifted (os : Os) (started : os.Started) (H : Type) (enc : TypeId × Value → H) :
    ReturnsInHanded {} Try.checked os 7 .any (Rows.aluTurnsSpec.pre6 enc Try.prog Try.f7 Rows.aluTurnsRow.domain false) (Rows.aluTurnsSpec.post enc Try.prog Try.f7 false true false false) := by
  refine returnsInHanded_of_change (C := Try.checked) own started (by kernel_rfl) Try.func7
    (ChangeSpec.witness6 (enc := enc) (C := Try.checked) false ⟨#[], #[.int .u8 0], []⟩ 8 (by kernel_rfl) (by kernel_rfl) (by kernel_rfl) (by kernel_rfl)) ?_
  intro W base args ds gs before hval0 hW hcnd _
  have hval : ∀ (j : Nat) t v, Try.f7.params[j]? = some t → args[j]? = some v → Value.okWide Try.prog W .any base t v := hval0
  have hW' := hW
  obtain ⟨p, q, hA0, hV, rfl, hfz, hnd⟩ := hW
  have hA : DataW.TrodAll enc Try.prog W 0 (fun _ => true) true Try.f7.params.toList args.toList ds p := hA0
  rw [Try.params7] at hA hval
  obtain ⟨v0, vs0, d0, ds0, p0, q0, hargs, rfl, rfl, h0, r0⟩ := trodAll_cons hA
  obtain ⟨rfl, rfl, rfl⟩ := trodAll_nil r0
  obtain rfl : args = #[v0] := by cases args; simp_all
  obtain ⟨rfl, rfl⟩ := trodVars_none hV
  obtain ⟨a0, rfl, rfl, rfl, w0⟩ := open_int Try.underlying5 (hval 0 5 v0 rfl rfl) h0
  clear hA0 hval0
  simp only [List.append_nil] at hW'
  refine (walk a0 w0 W).mono fun e W' ⟨he, hg⟩ => ?_
  subst he
  exact ⟨_, rfl, _, _, _, [], [], [], hW', (trodAll_cons_mk (shut_bool Try.underlying4 _) trodAll_mk0), (trodAll_cons_mk (shut_int Try.underlying5 w0) trodAll_mk0), rfl, hg.frame _, fun h => by cases h⟩

theorem over : Rows.aluTurnsRow.holds Try.pinned (OpenSpec.ofChange Rows.aluTurnsSpec) :=
  OpenClaim.holds_of_wide 7 Try.f7 rfl rfl rfl rfl rfl rfl rfl ⟨rfl, rfl, rfl, rfl, rfl⟩ rfl rfl rfl rfl rfl (by kernel_rfl) Try.func7 (by kernel_rfl)
    (of_decide_eq_true (by kernel_rfl)) (by unfold Func.isWrapper; first | (rw [if_pos (by decide +kernel)]; kernel_rfl) | (rw [if_neg (by decide +kernel)]; exact ⟨rfl, rfl⟩))
    (fun os started H enc _ => lifted os started H enc)

/-- ████ THE STATEMENT ████ -/
theorem proved : Rows.AluTurnsSaid :=
  over
#print axioms proved
end Go.Proofs.Ytfgbjaejkfkmmaa.aluTurns
