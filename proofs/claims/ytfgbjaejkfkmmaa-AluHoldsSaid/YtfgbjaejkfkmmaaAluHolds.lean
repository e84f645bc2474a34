/- PROVED: AluHolds: every number of a comparison holds of two words where the document says; no condition. -/
import Derived.Test.YtfgbjaejkfkmmaaRows
import Derived.WalkKit
import Derived.ProofKit
import Derived.OpenShut
import Derived.ChangeOld
import Derived.Below
import Derived.Test.YtfgbjaejkfkmmaaAluL
namespace Go.Proofs.Ytfgbjaejkfkmmaa.aluHolds
open Go.ChangeShapes Go.WideShapes Go.ChangeAt Go.RowKit
set_option linter.unusedVariables false      -- a walk need not use every 'w<i>' (that an integer argument fits its kind)

theorem own : ownKnob Try.prog.godebug = none := by kernel_rfl

/-! ### THE WALK -/
set_option maxRecDepth 100000 in
set_option maxHeartbeats 1000000 in
theorem walk (a0 : Int) (a1 : Int) (a2 : Int) (w0 : (Lit.int .u8 a0).wf = true) (w1 : (Lit.int .u32 a1).wf = true) (w2 : (Lit.int .u32 a2).wf = true) (w : World) :
    Calls Try.prog 5 #[.int .u8 a0, .int .u32 a1, .int .u32 a2] w fun e w' => e = .returned (.bool true) ∧ Below w.heap.size w w' := by
  have b0 := bounds_u8 w0
  have b1 := bounds_u32 w1
  have b2 := bounds_u32 w2
  obtain ⟨x, rfl⟩ := Int.eq_ofNat_of_zero_le b1.1
  obtain ⟨y, rfl⟩ := Int.eq_ofNat_of_zero_le b2.1
  have hx : x ≤ 4294967295 := by omega
  have hy : y ≤ 4294967295 := by omega
  by_cases h13 : a0 = 13
  · subst h13; exact lho_13 x y hx hy w
  by_cases h14 : a0 = 14
  · subst h14; exact lho_14 x y hx hy w
  by_cases h15 : a0 = 15
  · subst h15; exact lho_15 x y hx hy w
  by_cases h16 : a0 = 16
  · subst h16; exact lho_16 x y hx hy w
  by_cases h17 : a0 = 17
  · subst h17; exact lho_17 x y hx hy w
  by_cases h18 : a0 = 18
  · subst h18; exact lho_18 x y hx hy w
  by_cases h19 : a0 = 19
  · subst h19; exact lho_19 x y hx hy w
  by_cases h20 : a0 = 20
  · subst h20; exact lho_20 x y hx hy w
  by_cases h21 : a0 = 21
  · subst h21; exact lho_21 x y hx hy w
  by_cases h22 : a0 = 22
  · subst h22; exact lho_22 x y hx hy w
  by_cases h23 : a0 = 23
  · subst h23; exact lho_23 x y hx hy w
  by_cases h24 : a0 = 24
  · subst h24; exact lho_24 x y hx hy w
  by_cases h25 : a0 = 25
  · subst h25; exact lho_25 x y hx hy w
  by_cases h26 : a0 = 26
  · subst h26; exact lho_26 x y hx hy w
  by_cases h27 : a0 = 27
  · subst h27; exact lho_27 x y hx hy w
  by_cases h28 : a0 = 28
  · subst h28; exact lho_28 x y hx hy w
  have hn : ∀ k : Int, a0 ≠ k → (a0 == k) = false := fun k h => by rw [beq_eq_false_iff_ne]; exact h
  exact lho_other a0 x y hx hy (hn _ h13) (hn _ h14) (hn _ h15) (hn _ h16) (hn _ h17) (hn _ h18) (hn _ h19) (hn _ h20) (hn _ h21) (hn _ h22) (hn _ h23) (hn _ h24) (hn _ h25) (hn _ h26) (hn _ h27) (hn _ h28) w

/-! ### THE ROW's STEP: WRITTEN OUT: LEAVE IT -/
set_option maxRecDepth 100000 in
theorem lifted (os : Os) (started : os.Started) (H : Type) (enc : TypeId × Value → H) :
    ReturnsInHanded {} Try.checked os 5 .any (Rows.aluHoldsSpec.pre6 enc Try.prog Try.f5 Rows.aluHoldsRow.domain false) (Rows.aluHoldsSpec.post enc Try.prog Try.f5 false true false false) := by
  refine returnsInHanded_of_change (C := Try.checked) own started (by kernel_rfl) Try.func5
    (ChangeSpec.witness6 (enc := enc) (C := Try.checked) false ⟨#[], #[.int .u8 0, .int .u32 0, .int .u32 0], []⟩ 8 (by kernel_rfl) (by kernel_rfl) (by kernel_rfl) (by kernel_rfl)) ?_
  intro W base args ds gs before hval0 hW hcnd _
  have hval : ∀ (j : Nat) t v, Try.f5.params[j]? = some t → args[j]? = some v → Value.okWide Try.prog W .any base t v := hval0
  have hW' := hW
  obtain ⟨p, q, hA0, hV, rfl, hfz, hnd⟩ := hW
  have hA : DataW.TrodAll enc Try.prog W 0 (fun _ => true) true Try.f5.params.toList args.toList ds p := hA0
  rw [Try.params5] at hA hval
  obtain ⟨v0, vs0, d0, ds0, p0, q0, hargs, rfl, rfl, h0, r0⟩ := trodAll_cons hA
  obtain ⟨v1, vs1, d1, ds1, p1, q1, rfl, rfl, rfl, h1, r1⟩ := trodAll_cons r0
  obtain ⟨v2, vs2, d2, ds2, p2, q2, rfl, rfl, rfl, h2, r2⟩ := trodAll_cons r1
  obtain ⟨rfl, rfl, rfl⟩ := trodAll_nil r2
  obtain rfl : args = #[v0, v1, v2] := by cases args; simp_all
  obtain ⟨rfl, rfl⟩ := trodVars_none hV
  obtain ⟨a0, rfl, rfl, rfl, w0⟩ := open_int Try.underlying5 (hval 0 5 v0 rfl rfl) h0
  obtain ⟨a1, rfl, rfl, rfl, w1⟩ := open_int Try.underlying22 (hval 1 22 v1 rfl rfl) h1
  obtain ⟨a2, rfl, rfl, rfl, w2⟩ := open_int Try.underlying22 (hval 2 22 v2 rfl rfl) h2
  clear hA0 hval0
  simp only [List.append_nil] at hW'
  refine (walk a0 a1 a2 w0 w1 w2 W).mono fun e W' ⟨he, hg⟩ => ?_
  subst he
  exact ⟨_, rfl, _, _, _, [], [], [], hW', (trodAll_cons_mk (shut_bool Try.underlying4 _) trodAll_mk0), (trodAll_cons_mk (shut_int Try.underlying5 w0) (trodAll_cons_mk (shut_int Try.underlying22 w1) (trodAll_cons_mk (shut_int Try.underlying22 w2) trodAll_mk0))), rfl, hg.frame _, fun h => by cases h⟩

theorem over : Rows.aluHoldsRow.holds Try.pinned (OpenSpec.ofChange Rows.aluHoldsSpec) :=
  OpenClaim.holds_of_wide 5 Try.f5 rfl rfl rfl rfl rfl rfl rfl ⟨rfl, rfl, rfl, rfl, rfl⟩ rfl rfl rfl rfl rfl (by kernel_rfl) Try.func5 (by kernel_rfl)
    (of_decide_eq_true (by kernel_rfl)) (by unfold Func.isWrapper; first | (rw [if_pos (by decide +kernel)]; kernel_rfl) | (rw [if_neg (by decide +kernel)]; exact ⟨rfl, rfl⟩))
    (fun os started H enc _ => lifted os started H enc)

/-- ████ THE STATEMENT ████ -/
theorem proved : Rows.AluHoldsSaid :=
  over
#print axioms proved
end Go.Proofs.Ytfgbjaejkfkmmaa.aluHolds
