/- PROVED: AluNarrow: the lowest bits with their sign are what a shift up and down makes, and what is narrow already stays; no condition. -/
import Derived.Test.YtfgbjaejkfkmmaaRows
import Derived.WalkKit
import Derived.ProofKit
import Derived.OpenShut
import Derived.ChangeOld
import Derived.Below
import Derived.Test.YtfgbjaejkfkmmaaAluP
namespace Go.Proofs.Ytfgbjaejkfkmmaa.aluNarrow
open Go.ChangeShapes Go.WideShapes Go.ChangeAt Go.RowKit
set_option linter.unusedVariables false      -- a walk need not use every 'w<i>' (that an integer argument fits its kind)

theorem own : ownKnob Try.prog.godebug = none := by kernel_rfl

/-! ### THE WALK -/
set_option maxRecDepth 100000 in
set_option maxHeartbeats 4000000 in
theorem walk (a0 : Int) (w0 : (Lit.int .u32 a0).wf = true) (w : World) :
    Calls Try.prog 11 #[.int .u32 a0] w fun e w' => e = .returned (.bool true) ∧ Below w.heap.size w w' := by
  have b0 := bounds_u32 w0
  obtain ⟨a, rfl⟩ := Int.eq_ofNat_of_zero_le b0.1
  have ha : a ≤ 4294967295 := by omega
  obtain ⟨x, hx⟩ : ∃ x, sex8 a = x := ⟨_, rfl⟩
  obtain ⟨y, hy⟩ : ∃ y, sex16 a = y := ⟨_, rfl⟩
  obtain ⟨l, hl⟩ : ∃ l, a * 2 ^ (24 % 32) % 4294967296 = l := ⟨_, rfl⟩
  obtain ⟨m, hm⟩ : ∃ m, a * 2 ^ (16 % 32) % 4294967296 = m := ⟨_, rfl⟩
  have hx2 : x ≤ 4294967295 := by rw [← hx]; exact (sex_le a).1
  have hy2 : y ≤ 4294967295 := by rw [← hy]; exact (sex_le a).2
  have c1 := Lib.hid (fun W => one_36 a x ha hx W)
  have c2 := Lib.hid (fun W => one_37 a y ha hy W)
  have c3 := Lib.hid (fun W => two_50 a 24 l ha (by omega) hl W)
  have c4 := Lib.hid (fun W => two_51 l 24 x (by omega) (by omega) (by rw [← hl, ← hx]; exact (narrow_back a).1) W)
  have c5 := Lib.hid (fun W => two_50 a 16 m ha (by omega) hm W)
  have c6 := Lib.hid (fun W => two_51 m 16 y (by omega) (by omega) (by rw [← hm, ← hy]; exact (narrow_back a).2) W)
  have c7 := Lib.hid (fun W => one_36 x x hx2 (by rw [← hx]; exact (narrow_same a).1) W)
  have c8 := Lib.hid (fun W => one_37 x x hx2 (by rw [← hx]; exact (narrow_same a).2.1) W)
  have c9 := Lib.hid (fun W => one_37 y y hy2 (by rw [← hy]; exact (narrow_same a).2.2.1) W)
  have d1 := Lib.hid (fun W => one_36 y x hy2 (by rw [← hy, ← hx]; exact (narrow_same a).2.2.2) W)
  obtain ⟨r, hr⟩ : ∃ r, a % 256 = r := ⟨_, rfl⟩
  obtain ⟨t, ht⟩ : ∃ t, a % 65536 = t := ⟨_, rfl⟩
  have e1 : (x : Int) % 256 = (r : Int) := by have := (narrow_low a).1; rw [hx, hr] at this; omega
  have e2 : (a : Int) % 256 = (r : Int) := by omega
  have e3 : (y : Int) % 65536 = (t : Int) := by have := (narrow_low a).2; rw [hy, ht] at this; omega
  have e4 : (a : Int) % 65536 = (t : Int) := by omega
  clear hx hy hl hm hx2 hy2 ha hr ht b0 w0
  go_enter Try.func11, Try.ntmps11
  go_wp2_with fail
  refine (c1.out _).mono ?_
  rintro e w' ⟨rfl, rfl⟩
  go_wp2_with fail
  refine (c2.out _).mono ?_
  rintro e w' ⟨rfl, rfl⟩
  go_wp2_with fail
  refine (c3.out _).mono ?_
  rintro e w' ⟨rfl, g1⟩
  go_wp2_with fail
  refine (c4.out _).mono ?_
  rintro e w' ⟨rfl, g2⟩
  go_wp2_with fail
  refine (c5.out _).mono ?_
  rintro e w' ⟨rfl, g3⟩
  go_wp2_with fail
  refine (c6.out _).mono ?_
  rintro e w' ⟨rfl, g4⟩
  go_wp2_with fail
  refine (c7.out _).mono ?_
  rintro e w' ⟨rfl, rfl⟩
  go_wp2_with fail
  refine (c8.out _).mono ?_
  rintro e w' ⟨rfl, rfl⟩
  go_wp2_with fail
  refine (c9.out _).mono ?_
  rintro e w' ⟨rfl, rfl⟩
  go_wp2_with fail
  refine (d1.out _).mono ?_
  rintro e w' ⟨rfl, rfl⟩
  go_wp2_with fail
  refine (awake_any _).mono ?_
  rintro e w' ⟨rfl, g5⟩
  go_wp2
  go_ret
  exact ⟨ret_same (by simp), by repeat (first | exact Below.refl _ _ | refine bs_drew ?_ | (refine bs_step ?_ (by assumption)))⟩

/-! ### THE ROW's STEP: WRITTEN OUT: LEAVE IT -/
set_option maxRecDepth 100000 in
theorem lifted (os : Os) (started : os.Started) (H : Type) (enc : TypeId × Value → H) :
    ReturnsInHanded {} Try.checked os 11 .any (Rows.aluNarrowSpec.pre6 enc Try.prog Try.f11 Rows.aluNarrowRow.domain false) (Rows.aluNarrowSpec.post enc Try.prog Try.f11 false true false false) := by
  refine returnsInHanded_of_change (C := Try.checked) own started (by kernel_rfl) Try.func11
    (ChangeSpec.witness6 (enc := enc) (C := Try.checked) false ⟨#[], #[.int .u32 0], []⟩ 8 (by kernel_rfl) (by kernel_rfl) (by kernel_rfl) (by kernel_rfl)) ?_
  intro W base args ds gs before hval0 hW hcnd _
  have hval : ∀ (j : Nat) t v, Try.f11.params[j]? = some t → args[j]? = some v → Value.okWide Try.prog W .any base t v := hval0
  have hW' := hW
  obtain ⟨p, q, hA0, hV, rfl, hfz, hnd⟩ := hW
  have hA : DataW.TrodAll enc Try.prog W 0 (fun _ => true) true Try.f11.params.toList args.toList ds p := hA0
  rw [Try.params11] at hA hval
  obtain ⟨v0, vs0, d0, ds0, p0, q0, hargs, rfl, rfl, h0, r0⟩ := trodAll_cons hA
  obtain ⟨rfl, rfl, rfl⟩ := trodAll_nil r0
  obtain rfl : args = #[v0] := by cases args; simp_all
  obtain ⟨rfl, rfl⟩ := trodVars_none hV
  obtain ⟨a0, rfl, rfl, rfl, w0⟩ := open_int Try.underlying22 (hval 0 22 v0 rfl rfl) h0
  clear hA0 hval0
  simp only [List.append_nil] at hW'
  refine (walk a0 w0 W).mono fun e W' ⟨he, hg⟩ => ?_
  subst he
  exact ⟨_, rfl, _, _, _, [], [], [], hW', (trodAll_cons_mk (shut_bool Try.underlying4 _) trodAll_mk0), (trodAll_cons_mk (shut_int Try.underlying22 w0) trodAll_mk0), rfl, hg.frame _, fun h => by cases h⟩

theorem over : Rows.aluNarrowRow.holds Try.pinned (OpenSpec.ofChange Rows.aluNarrowSpec) :=
  OpenClaim.holds_of_wide 11 Try.f11 rfl rfl rfl rfl rfl rfl rfl ⟨rfl, rfl, rfl, rfl, rfl⟩ rfl rfl rfl rfl rfl (by kernel_rfl) Try.func11 (by kernel_rfl)
    (of_decide_eq_true (by kernel_rfl)) (by unfold Func.isWrapper; first | (rw [if_pos (by decide +kernel)]; kernel_rfl) | (rw [if_neg (by decide +kernel)]; exact ⟨rfl, rfl⟩))
    (fun os started H enc _ => lifted os started H enc)

/-- ████ THE STATEMENT ████ -/
theorem proved : Rows.AluNarrowSaid :=
  over
#print axioms proved
end Go.Proofs.Ytfgbjaejkfkmmaa.aluNarrow
