/- PROVED: AluThree: of two words one is below, the same as or above the other, with and without sign; of floats too, but where one is no number: then none holds; no condition. -/
import Derived.Test.YtfgbjaejkfkmmaaRows
import Derived.WalkKit
import Derived.ProofKit
import Derived.OpenShut
import Derived.ChangeOld
import Derived.Below
import Derived.Test.YtfgbjaejkfkmmaaAluP
namespace Go.Proofs.Ytfgbjaejkfkmmaa.aluThree
open Go.ChangeShapes Go.WideShapes Go.ChangeAt Go.RowKit
set_option linter.unusedVariables false      -- a walk need not use every 'w<i>' (that an integer argument fits its kind)

theorem own : ownKnob Try.prog.godebug = none := by kernel_rfl

/-! ### THE WALK -/
set_option maxRecDepth 100000 in
set_option maxHeartbeats 4000000 in
theorem walk (a0 : Int) (a1 : Int) (w0 : (Lit.int .u32 a0).wf = true) (w1 : (Lit.int .u32 a1).wf = true) (w : World) :
    Calls Try.prog 12 #[.int .u32 a0, .int .u32 a1] w fun e w' => e = .returned (.bool true) ∧ Below w.heap.size w w' := by
  have b0 := bounds_u32 w0
  have b1 := bounds_u32 w1
  obtain ⟨a, rfl⟩ := Int.eq_ofNat_of_zero_le b0.1
  obtain ⟨b, rfl⟩ := Int.eq_ofNat_of_zero_le b1.1
  have ha : a ≤ 4294967295 := by omega
  have hb : b ≤ 4294967295 := by omega
  have q1 := three_int (wrap32 (a : Int)) (wrap32 (b : Int)) (decide (a = b)) (wrap_inj a b ha hb)
  have q2 := three_nat a b
  obtain ⟨t1, h1⟩ : ∃ t, decide (wrap32 (a : Int) < wrap32 (b : Int)) = t := ⟨_, rfl⟩
  obtain ⟨t2, h2⟩ : ∃ t, decide (a = b) = t := ⟨_, rfl⟩
  obtain ⟨t3, h3⟩ : ∃ t, decide (wrap32 (b : Int) < wrap32 (a : Int)) = t := ⟨_, rfl⟩
  obtain ⟨t4, h4⟩ : ∃ t, decide (a < b) = t := ⟨_, rfl⟩
  obtain ⟨t5, h5⟩ : ∃ t, decide (b < a) = t := ⟨_, rfl⟩
  rw [h1, h2, h3] at q1
  rw [h4, h2, h5] at q2
  have c1 := Lib.hid (fun W => is_15 a b t1 h1 W)
  have c2 := Lib.hid (fun W => is_13 a b t2 h2 W)
  have c3 := Lib.hid (fun W => is_17 a b t3 h3 W)
  have c4 := Lib.hid (fun W => many_any t1 t2 t3 1 q1 W)
  have c5 := Lib.hid (fun W => is_19 a b t4 h4 W)
  have c6 := Lib.hid (fun W => is_21 a b t5 h5 W)
  have c7 := Lib.hid (fun W => many_any t4 t2 t5 1 q2 W)
  have x1 := bits_low a ha
  have x2 := bits_low b hb
  have hsd := side_none a b
  obtain ⟨r, hr⟩ : ∃ r, a % 2147483648 = r := ⟨_, rfl⟩
  obtain ⟨s, hs⟩ : ∃ r, b % 2147483648 = r := ⟨_, rfl⟩
  rw [hr] at x1 hsd
  rw [hs] at x2 hsd
  clear h1 h2 h3 h4 h5 q1 q2 hr hs b0 b1 w0 w1 ha hb
  by_cases hn1 : 2139095040 < r
  · have hk : sideOf (Ieee.single.order a b) = 1 := hsd.elim (fun h => h.2) (fun h => absurd hn1 h.1.1)
    have f1 := Lib.hid (fun W => is_25 a b false (by rw [hk]; rfl) W)
    have f2 := Lib.hid (fun W => is_23 a b false (by rw [hk]; rfl) W)
    have f3 := Lib.hid (fun W => is_27 a b false (by rw [hk]; rfl) W)
    have f4 := Lib.hid (fun W => many_any false false false 0 rfl W)
    have f5 := Lib.hid (fun W => is_24 a b true (by rw [hk]; rfl) W)
    have f6 := Lib.hid (fun W => is_26 a b false (by rw [hk]; rfl) W)
    have f7 := Lib.hid (fun W => is_28 a b false (by rw [hk]; rfl) W)
    have v1 : decide ((2139095040 : Int) < (r : Int)) = true := decide_eq_true (by omega)
    clear hsd hn1
    clear hk
    go_enter Try.func12, Try.ntmps12
    go_wp2_with fail
    refine (c1.out _).mono ?_
    rintro e w' ⟨rfl, rfl⟩
    go_wp2_with fail
    refine (c2.out _).mono ?_
    rintro e w' ⟨rfl, rfl⟩
    go_wp2_with fail
    refine (c3.out _).mono ?_
    rintro e w' ⟨rfl, rfl⟩
    go_wp2_with fail
    refine (c4.out _).mono ?_
    rintro e w' ⟨rfl, rfl⟩
    go_wp2_with fail
    refine (c5.out _).mono ?_
    rintro e w' ⟨rfl, rfl⟩
    go_wp2_with fail
    refine (c2.out _).mono ?_
    rintro e w' ⟨rfl, rfl⟩
    go_wp2_with fail
    refine (c6.out _).mono ?_
    rintro e w' ⟨rfl, rfl⟩
    go_wp2_with fail
    refine (c7.out _).mono ?_
    rintro e w' ⟨rfl, rfl⟩
    go_wp2_with fail
    refine (f1.out _).mono ?_
    rintro e w' ⟨rfl, rfl⟩
    go_wp2_with fail
    refine (f2.out _).mono ?_
    rintro e w' ⟨rfl, rfl⟩
    go_wp2_with fail
    refine (f3.out _).mono ?_
    rintro e w' ⟨rfl, rfl⟩
    go_wp2_with fail
    refine (f4.out _).mono ?_
    rintro e w' ⟨rfl, rfl⟩
    go_wp2_with fail
    refine (f5.out _).mono ?_
    rintro e w' ⟨rfl, rfl⟩
    go_wp2_with fail
    refine (f6.out _).mono ?_
    rintro e w' ⟨rfl, rfl⟩
    go_wp2_with fail
    refine (f7.out _).mono ?_
    rintro e w' ⟨rfl, rfl⟩
    go_wp2_with fail
    refine (awake_any _).mono ?_
    rintro e w' ⟨rfl, g⟩
    go_wp2
    go_ret
    exact ⟨ret_same (by simp), g⟩
  · by_cases hn2 : 2139095040 < s
    · have hk : sideOf (Ieee.single.order a b) = 1 := hsd.elim (fun h => h.2) (fun h => absurd hn2 h.1.2)
      have f1 := Lib.hid (fun W => is_25 a b false (by rw [hk]; rfl) W)
      have f2 := Lib.hid (fun W => is_23 a b false (by rw [hk]; rfl) W)
      have f3 := Lib.hid (fun W => is_27 a b false (by rw [hk]; rfl) W)
      have f4 := Lib.hid (fun W => many_any false false false 0 rfl W)
      have f5 := Lib.hid (fun W => is_24 a b true (by rw [hk]; rfl) W)
      have f6 := Lib.hid (fun W => is_26 a b false (by rw [hk]; rfl) W)
      have f7 := Lib.hid (fun W => is_28 a b false (by rw [hk]; rfl) W)
      have v1 : decide ((2139095040 : Int) < (r : Int)) = false := decide_eq_false (by omega)
      have v2 : decide ((2139095040 : Int) < (s : Int)) = true := decide_eq_true (by omega)
      clear hsd hn1 hn2
      clear hk
      go_enter Try.func12, Try.ntmps12
      go_wp2_with fail
      refine (c1.out _).mono ?_
      rintro e w' ⟨rfl, rfl⟩
      go_wp2_with fail
      refine (c2.out _).mono ?_
      rintro e w' ⟨rfl, rfl⟩
      go_wp2_with fail
      refine (c3.out _).mono ?_
      rintro e w' ⟨rfl, rfl⟩
      go_wp2_with fail
      refine (c4.out _).mono ?_
      rintro e w' ⟨rfl, rfl⟩
      go_wp2_with fail
      refine (c5.out _).mono ?_
      rintro e w' ⟨rfl, rfl⟩
      go_wp2_with fail
      refine (c2.out _).mono ?_
      rintro e w' ⟨rfl, rfl⟩
      go_wp2_with fail
      refine (c6.out _).mono ?_
      rintro e w' ⟨rfl, rfl⟩
      go_wp2_with fail
      refine (c7.out _).mono ?_
      rintro e w' ⟨rfl, rfl⟩
      go_wp2_with fail
      refine (f1.out _).mono ?_
      rintro e w' ⟨rfl, rfl⟩
      go_wp2_with fail
      refine (f2.out _).mono ?_
      rintro e w' ⟨rfl, rfl⟩
      go_wp2_with fail
      refine (f3.out _).mono ?_
      rintro e w' ⟨rfl, rfl⟩
      go_wp2_with fail
      refine (f4.out _).mono ?_
      rintro e w' ⟨rfl, rfl⟩
      go_wp2_with fail
      refine (f5.out _).mono ?_
      rintro e w' ⟨rfl, rfl⟩
      go_wp2_with fail
      refine (f6.out _).mono ?_
      rintro e w' ⟨rfl, rfl⟩
      go_wp2_with fail
      refine (f7.out _).mono ?_
      rintro e w' ⟨rfl, rfl⟩
      go_wp2_with fail
      refine (awake_any _).mono ?_
      rintro e w' ⟨rfl, g⟩
      go_wp2
      go_ret
      exact ⟨ret_same (by simp), g⟩
    · have hk3 : sideOf (Ieee.single.order a b) = 2 ∨ sideOf (Ieee.single.order a b) = 3 ∨ sideOf (Ieee.single.order a b) = 4 := hsd.elim (fun h => absurd h.1 (by omega)) (fun h => h.2)
      have v1 : decide ((2139095040 : Int) < (r : Int)) = false := decide_eq_false (by omega)
      have v2 : decide ((2139095040 : Int) < (s : Int)) = false := decide_eq_false (by omega)
      clear hsd hn1 hn2
      rcases hk3 with hk | hk | hk
      · have f1 := Lib.hid (fun W => is_25 a b true (by rw [hk]; rfl) W)
        have f2 := Lib.hid (fun W => is_23 a b false (by rw [hk]; rfl) W)
        have f3 := Lib.hid (fun W => is_27 a b false (by rw [hk]; rfl) W)
        have f4 := Lib.hid (fun W => many_any true false false 1 rfl W)
        have f5 := Lib.hid (fun W => is_24 a b true (by rw [hk]; rfl) W)
        have f6 := Lib.hid (fun W => is_26 a b true (by rw [hk]; rfl) W)
        have f7 := Lib.hid (fun W => is_28 a b false (by rw [hk]; rfl) W)
        clear hk
        go_enter Try.func12, Try.ntmps12
        go_wp2_with fail
        refine (c1.out _).mono ?_
        rintro e w' ⟨rfl, rfl⟩
        go_wp2_with fail
        refine (c2.out _).mono ?_
        rintro e w' ⟨rfl, rfl⟩
        go_wp2_with fail
        refine (c3.out _).mono ?_
        rintro e w' ⟨rfl, rfl⟩
        go_wp2_with fail
        refine (c4.out _).mono ?_
        rintro e w' ⟨rfl, rfl⟩
        go_wp2_with fail
        refine (c5.out _).mono ?_
        rintro e w' ⟨rfl, rfl⟩
        go_wp2_with fail
        refine (c2.out _).mono ?_
        rintro e w' ⟨rfl, rfl⟩
        go_wp2_with fail
        refine (c6.out _).mono ?_
        rintro e w' ⟨rfl, rfl⟩
        go_wp2_with fail
        refine (c7.out _).mono ?_
        rintro e w' ⟨rfl, rfl⟩
        go_wp2_with fail
        refine (f1.out _).mono ?_
        rintro e w' ⟨rfl, rfl⟩
        go_wp2_with fail
        refine (f2.out _).mono ?_
        rintro e w' ⟨rfl, rfl⟩
        go_wp2_with fail
        refine (f3.out _).mono ?_
        rintro e w' ⟨rfl, rfl⟩
        go_wp2_with fail
        refine (f4.out _).mono ?_
        rintro e w' ⟨rfl, rfl⟩
        go_wp2_with fail
        refine (f5.out _).mono ?_
        rintro e w' ⟨rfl, rfl⟩
        go_wp2_with fail
        refine (f6.out _).mono ?_
        rintro e w' ⟨rfl, rfl⟩
        go_wp2_with fail
        refine (f7.out _).mono ?_
        rintro e w' ⟨rfl, rfl⟩
        go_wp2_with fail
        refine (awake_any _).mono ?_
        rintro e w' ⟨rfl, g⟩
        go_wp2
        go_ret
        exact ⟨ret_same (by simp), g⟩
      · have f1 := Lib.hid (fun W => is_25 a b false (by rw [hk]; rfl) W)
        have f2 := Lib.hid (fun W => is_23 a b true (by rw [hk]; rfl) W)
        have f3 := Lib.hid (fun W => is_27 a b false (by rw [hk]; rfl) W)
        have f4 := Lib.hid (fun W => many_any false true false 1 rfl W)
        have f5 := Lib.hid (fun W => is_24 a b false (by rw [hk]; rfl) W)
        have f6 := Lib.hid (fun W => is_26 a b true (by rw [hk]; rfl) W)
        have f7 := Lib.hid (fun W => is_28 a b true (by rw [hk]; rfl) W)
        clear hk
        go_enter Try.func12, Try.ntmps12
        go_wp2_with fail
        refine (c1.out _).mono ?_
        rintro e w' ⟨rfl, rfl⟩
        go_wp2_with fail
        refine (c2.out _).mono ?_
        rintro e w' ⟨rfl, rfl⟩
        go_wp2_with fail
        refine (c3.out _).mono ?_
        rintro e w' ⟨rfl, rfl⟩
        go_wp2_with fail
        refine (c4.out _).mono ?_
        rintro e w' ⟨rfl, rfl⟩
        go_wp2_with fail
        refine (c5.out _).mono ?_
        rintro e w' ⟨rfl, rfl⟩
        go_wp2_with fail
        refine (c2.out _).mono ?_
        rintro e w' ⟨rfl, rfl⟩
        go_wp2_with fail
        refine (c6.out _).mono ?_
        rintro e w' ⟨rfl, rfl⟩
        go_wp2_with fail
        refine (c7.out _).mono ?_
        rintro e w' ⟨rfl, rfl⟩
        go_wp2_with fail
        refine (f1.out _).mono ?_
        rintro e w' ⟨rfl, rfl⟩
        go_wp2_with fail
        refine (f2.out _).mono ?_
        rintro e w' ⟨rfl, rfl⟩
        go_wp2_with fail
        refine (f3.out _).mono ?_
        rintro e w' ⟨rfl, rfl⟩
        go_wp2_with fail
        refine (f4.out _).mono ?_
        rintro e w' ⟨rfl, rfl⟩
        go_wp2_with fail
        refine (f5.out _).mono ?_
        rintro e w' ⟨rfl, rfl⟩
        go_wp2_with fail
        refine (f6.out _).mono ?_
        rintro e w' ⟨rfl, rfl⟩
        go_wp2_with fail
        refine (f7.out _).mono ?_
        rintro e w' ⟨rfl, rfl⟩
        go_wp2_with fail
        refine (awake_any _).mono ?_
        rintro e w' ⟨rfl, g⟩
        go_wp2
        go_ret
        exact ⟨ret_same (by simp), g⟩
      · have f1 := Lib.hid (fun W => is_25 a b false (by rw [hk]; rfl) W)
        have f2 := Lib.hid (fun W => is_23 a b false (by rw [hk]; rfl) W)
        have f3 := Lib.hid (fun W => is_27 a b true (by rw [hk]; rfl) W)
        have f4 := Lib.hid (fun W => many_any false false true 1 rfl W)
        have f5 := Lib.hid (fun W => is_24 a b true (by rw [hk]; rfl) W)
        have f6 := Lib.hid (fun W => is_26 a b false (by rw [hk]; rfl) W)
        have f7 := Lib.hid (fun W => is_28 a b true (by rw [hk]; rfl) W)
        clear hk
        go_enter Try.func12, Try.ntmps12
        go_wp2_with fail
        refine (c1.out _).mono ?_
        rintro e w' ⟨rfl, rfl⟩
        go_wp2_with fail
        refine (c2.out _).mono ?_
        rintro e w' ⟨rfl, rfl⟩
        go_wp2_with fail
        refine (c3.out _).mono ?_
        rintro e w' ⟨rfl, rfl⟩
        go_wp2_with fail
        refine (c4.out _).mono ?_
        rintro e w' ⟨rfl, rfl⟩
        go_wp2_with fail
        refine (c5.out _).mono ?_
        rintro e w' ⟨rfl, rfl⟩
        go_wp2_with fail
        refine (c2.out _).mono ?_
        rintro e w' ⟨rfl, rfl⟩
        go_wp2_with fail
        refine (c6.out _).mono ?_
        rintro e w' ⟨rfl, rfl⟩
        go_wp2_with fail
        refine (c7.out _).mono ?_
        rintro e w' ⟨rfl, rfl⟩
        go_wp2_with fail
        refine (f1.out _).mono ?_
        rintro e w' ⟨rfl, rfl⟩
        go_wp2_with fail
        refine (f2.out _).mono ?_
        rintro e w' ⟨rfl, rfl⟩
        go_wp2_with fail
        refine (f3.out _).mono ?_
        rintro e w' ⟨rfl, rfl⟩
        go_wp2_with fail
        refine (f4.out _).mono ?_
        rintro e w' ⟨rfl, rfl⟩
        go_wp2_with fail
        refine (f5.out _).mono ?_
        rintro e w' ⟨rfl, rfl⟩
        go_wp2_with fail
        refine (f6.out _).mono ?_
        rintro e w' ⟨rfl, rfl⟩
        go_wp2_with fail
        refine (f7.out _).mono ?_
        rintro e w' ⟨rfl, rfl⟩
        go_wp2_with fail
        refine (awake_any _).mono ?_
        rintro e w' ⟨rfl, g⟩
        go_wp2
        go_ret
        exact ⟨ret_same (by simp), g⟩

/-! ### THE ROW's STEP: WRITTEN OUT: LEAVE IT -/
set_option maxRecDepth 100000 in
theorem lifted (os : Os) (started : os.Started) (H : Type) (enc : TypeId × Value → H) :
    ReturnsInHanded {} Try.checked os 12 .any (Rows.aluThreeSpec.pre6 enc Try.prog Try.f12 Rows.aluThreeRow.domain false) (Rows.aluThreeSpec.post enc Try.prog Try.f12 false true false false) := by
  refine returnsInHanded_of_change (C := Try.checked) own started (by kernel_rfl) Try.func12
    (ChangeSpec.witness6 (enc := enc) (C := Try.checked) false ⟨#[], #[.int .u32 0, .int .u32 0], []⟩ 8 (by kernel_rfl) (by kernel_rfl) (by kernel_rfl) (by kernel_rfl)) ?_
  intro W base args ds gs before hval0 hW hcnd _
  have hval : ∀ (j : Nat) t v, Try.f12.params[j]? = some t → args[j]? = some v → Value.okWide Try.prog W .any base t v := hval0
  have hW' := hW
  obtain ⟨p, q, hA0, hV, rfl, hfz, hnd⟩ := hW
  have hA : DataW.TrodAll enc Try.prog W 0 (fun _ => true) true Try.f12.params.toList args.toList ds p := hA0
  rw [Try.params12] at hA hval
  obtain ⟨v0, vs0, d0, ds0, p0, q0, hargs, rfl, rfl, h0, r0⟩ := trodAll_cons hA
  obtain ⟨v1, vs1, d1, ds1, p1, q1, rfl, rfl, rfl, h1, r1⟩ := trodAll_cons r0
  obtain ⟨rfl, rfl, rfl⟩ := trodAll_nil r1
  obtain rfl : args = #[v0, v1] := by cases args; simp_all
  obtain ⟨rfl, rfl⟩ := trodVars_none hV
  obtain ⟨a0, rfl, rfl, rfl, w0⟩ := open_int Try.underlying22 (hval 0 22 v0 rfl rfl) h0
  obtain ⟨a1, rfl, rfl, rfl, w1⟩ := open_int Try.underlying22 (hval 1 22 v1 rfl rfl) h1
  clear hA0 hval0
  simp only [List.append_nil] at hW'
  refine (walk a0 a1 w0 w1 W).mono fun e W' ⟨he, hg⟩ => ?_
  subst he
  exact ⟨_, rfl, _, _, _, [], [], [], hW', (trodAll_cons_mk (shut_bool Try.underlying4 _) trodAll_mk0), (trodAll_cons_mk (shut_int Try.underlying22 w0) (trodAll_cons_mk (shut_int Try.underlying22 w1) trodAll_mk0)), rfl, hg.frame _, fun h => by cases h⟩

theorem over : Rows.aluThreeRow.holds Try.pinned (OpenSpec.ofChange Rows.aluThreeSpec) :=
  OpenClaim.holds_of_wide 12 Try.f12 rfl rfl rfl rfl rfl rfl rfl ⟨rfl, rfl, rfl, rfl, rfl⟩ rfl rfl rfl rfl rfl (by kernel_rfl) Try.func12 (by kernel_rfl)
    (of_decide_eq_true (by kernel_rfl)) (by unfold Func.isWrapper; first | (rw [if_pos (by decide +kernel)]; kernel_rfl) | (rw [if_neg (by decide +kernel)]; exact ⟨rfl, rfl⟩))
    (fun os started H enc _ => lifted os started H enc)

/-- ████ THE STATEMENT ████ -/
theorem proved : Rows.AluThreeSaid :=
  over
#print axioms proved
end Go.Proofs.Ytfgbjaejkfkmmaa.aluThree
