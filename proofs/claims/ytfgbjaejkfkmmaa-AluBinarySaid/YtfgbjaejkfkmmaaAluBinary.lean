/- PROVED: AluBinary: what every number of an operation makes of every two words is what the document says; no condition. -/
import Derived.Test.YtfgbjaejkfkmmaaRows
import Derived.WalkKit
import Derived.ProofKit
import Derived.OpenShut
import Derived.ChangeOld
import Derived.Below
import Derived.Test.YtfgbjaejkfkmmaaAluF
namespace Go.Proofs.Ytfgbjaejkfkmmaa.aluBinary
open Go.ChangeShapes Go.WideShapes Go.ChangeAt Go.RowKit
set_option linter.unusedVariables false      -- a walk need not use every 'w<i>' (that an integer argument fits its kind)

theorem own : ownKnob Try.prog.godebug = none := by kernel_rfl

/-! ### THE WALK -/
set_option maxRecDepth 100000 in
set_option maxHeartbeats 1000000 in
theorem walk (a0 : Int) (a1 : Int) (a2 : Int) (w0 : (Lit.int .u8 a0).wf = true) (w1 : (Lit.int .u32 a1).wf = true) (w2 : (Lit.int .u32 a2).wf = true) (w : World) :
    Calls Try.prog 6 #[.int .u8 a0, .int .u32 a1, .int .u32 a2] w fun e w' => e = .returned (.bool true) ∧ Below w.heap.size w w' := by
  have b0 := bounds_u8 w0
  have b1 := bounds_u32 w1
  have b2 := bounds_u32 w2
  obtain ⟨x, rfl⟩ := Int.eq_ofNat_of_zero_le b1.1
  obtain ⟨y, rfl⟩ := Int.eq_ofNat_of_zero_le b2.1
  have hx : x ≤ 4294967295 := by omega
  have hy : y ≤ 4294967295 := by omega
  by_cases h39 : a0 = 39
  · subst h39; exact lbi_39 x y hx hy w
  by_cases h40 : a0 = 40
  · subst h40; exact lbi_40 x y hx hy w
  by_cases h41 : a0 = 41
  · subst h41; exact lbi_41 x y hx hy w
  by_cases h42 : a0 = 42
  · subst h42
    by_cases hz : y = 0
    · subst hz; exact lbi_42_nought x hx w
    · exact lbi_42 x y hx hy (by omega) w
  by_cases h43 : a0 = 43
  · subst h43
    by_cases hz : y = 0
    · subst hz; exact lbi_43_nought x hx w
    · exact lbi_43 x y hx hy (by omega) w
  by_cases h44 : a0 = 44
  · subst h44
    by_cases hz : y = 0
    · subst hz; exact lbi_44_nought x hx w
    · exact lbi_44 x y hx hy (by omega) w
  by_cases h45 : a0 = 45
  · subst h45
    by_cases hz : y = 0
    · subst hz; exact lbi_45_nought x hx w
    · exact lbi_45 x y hx hy (by omega) w
  by_cases h46 : a0 = 46
  · subst h46; exact lbi_46 x y hx hy w
  by_cases h47 : a0 = 47
  · subst h47; exact lbi_47 x y hx hy w
  by_cases h48 : a0 = 48
  · subst h48; exact lbi_48 x y hx hy w
  by_cases h50 : a0 = 50
  · subst h50; exact lbi_50 x y hx hy w
  by_cases h51 : a0 = 51
  · subst h51; exact lbi_51 x y hx hy w
  by_cases h52 : a0 = 52
  · subst h52; exact lbi_52 x y hx hy w
  by_cases h54 : a0 = 54
  · subst h54; exact lbi_54 x y hx hy w
  by_cases h55 : a0 = 55
  · subst h55; exact lbi_55 x y hx hy w
  by_cases h56 : a0 = 56
  · subst h56; exact lbi_56 x y hx hy w
  by_cases h57 : a0 = 57
  · subst h57; exact lbi_57 x y hx hy w
  have hn : ∀ k : Int, a0 ≠ k → (a0 == k) = false := fun k h => by rw [beq_eq_false_iff_ne]; exact h
  exact lbi_other a0 x y (hn _ h39) (hn _ h40) (hn _ h41) (hn _ h42) (hn _ h43) (hn _ h44) (hn _ h45) (hn _ h46) (hn _ h47) (hn _ h48) (hn _ h50) (hn _ h51) (hn _ h52) (hn _ h54) (hn _ h55) (hn _ h56) (hn _ h57) w

/-! ### THE ROW's STEP: WRITTEN OUT: LEAVE IT -/
set_option maxRecDepth 100000 in
theorem lifted (os : Os) (started : os.Started) (H : Type) (enc : TypeId × Value → H) :
    ReturnsInHanded {} Try.checked os 6 .any (Rows.aluBinarySpec.pre6 enc Try.prog Try.f6 Rows.aluBinaryRow.domain false) (Rows.aluBinarySpec.post enc Try.prog Try.f6 false true false false) := by
  refine returnsInHanded_of_change (C := Try.checked) own started (by kernel_rfl) Try.func6
    (ChangeSpec.witness6 (enc := enc) (C := Try.checked) false ⟨#[], #[.int .u8 0, .int .u32 0, .int .u32 0], []⟩ 8 (by kernel_rfl) (by kernel_rfl) (by kernel_rfl) (by kernel_rfl)) ?_
  intro W base args ds gs before hval0 hW hcnd _
  have hval : ∀ (j : Nat) t v, Try.f6.params[j]? = some t → args[j]? = some v → Value.okWide Try.prog W .any base t v := hval0
  have hW' := hW
  obtain ⟨p, q, hA0, hV, rfl, hfz, hnd⟩ := hW
  have hA : DataW.TrodAll enc Try.prog W 0 (fun _ => true) true Try.f6.params.toList args.toList ds p := hA0
  rw [Try.params6] at hA hval
  obtain ⟨v0, vs0, d0, ds0, p0, q0, hargs, rfl, rfl, h0, r0⟩ := trodAll_cons hA
  obtain ⟨v1, vs1, d1, ds1, p1, q1, rfl, rfl, rfl, h1, r1⟩ := trodAll_cons r0
  obtain ⟨v2, vs2, d2, ds2, p2, q2, rfl, rfl, rfl, h2, r2⟩ := trodAll_cons r1
  obtain ⟨rfl, rfl, rfl⟩ := trodAll_nil r2
  obtain rfl : args = #[v0, v1, v2] := by cases args; simp_all
  obtain ⟨rfl, rfl⟩ := trodVars_none hV
  obtain ⟨a0, rfl, rfl, rfl, w0⟩ := open_int Try.underlying5 (hval 0 5 v0 rfl rfl) h0
  obtain ⟨a1, rfl, rfl, rfl, w1⟩ := open_int Try.underlying22 (hval 1 22 v1 rfl rfl) h1
  obtain ⟨a2, rfl, rfl, rfl, w2⟩ := open_int Try.underlying22 (hval 2 22 v2 rfl rfl) h2
  clear hA0 hval0
  simp only [List.append_nil] at hW'
  refine (walk a0 a1 a2 w0 w1 w2 W).mono fun e W' ⟨he, hg⟩ => ?_
  subst he
  exact ⟨_, rfl, _, _, _, [], [], [], hW', (trodAll_cons_mk (shut_bool Try.underlying4 _) trodAll_mk0), (trodAll_cons_mk (shut_int Try.underlying5 w0) (trodAll_cons_mk (shut_int Try.underlying22 w1) (trodAll_cons_mk (shut_int Try.underlying22 w2) trodAll_mk0))), rfl, hg.frame _, fun h => by cases h⟩

theorem over : Rows.aluBinaryRow.holds Try.pinned (OpenSpec.ofChange Rows.aluBinarySpec) :=
  OpenClaim.holds_of_wide 6 Try.f6 rfl rfl rfl rfl rfl rfl rfl ⟨rfl, rfl, rfl, rfl, rfl⟩ rfl rfl rfl rfl rfl (by kernel_rfl) Try.func6 (by kernel_rfl)
    (of_decide_eq_true (by kernel_rfl)) (by unfold Func.isWrapper; first | (rw [if_pos (by decide +kernel)]; kernel_rfl) | (rw [if_neg (by decide +kernel)]; exact ⟨rfl, rfl⟩))
    (fun os started H enc _ => lifted os started H enc)

/-- ████ THE STATEMENT ████ -/
theorem proved : Rows.AluBinarySaid :=
  over
#print axioms proved
end Go.Proofs.Ytfgbjaejkfkmmaa.aluBinary
