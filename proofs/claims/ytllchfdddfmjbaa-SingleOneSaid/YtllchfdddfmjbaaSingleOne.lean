/- PROVED: SingleOne: there is one NaN: no other is answered, and each other one that is handed in counts as it; no condition. -/
import Derived.Test.YtllchfdddfmjbaaRows
import Derived.WalkKit
import Derived.ProofKit
import Derived.OpenShut
import Derived.ChangeOld
import Derived.Below
import Derived.Test.YtllchfdddfmjbaaOneP
import Derived.Test.YtllchfdddfmjbaaRootB
namespace Go.Proofs.Ytllchfdddfmjbaa.singleOne
open Go.ChangeShapes Go.WideShapes Go.ChangeAt Go.RowKit
set_option linter.unusedVariables false      -- a walk need not use every 'w<i>' (that an integer argument fits its kind)

theorem own : ownKnob Try.prog.godebug = none := by kernel_rfl

/-! ### THE WALK -/
set_option maxRecDepth 100000 in
set_option maxHeartbeats 1000000 in
theorem walk (a0 : Int) (a1 : Int) (w0 : (Lit.int .u32 a0).wf = true) (w1 : (Lit.int .u32 a1).wf = true) (w : World) :
    Calls Try.prog 10 #[.int .u32 a0, .int .u32 a1] w fun e w' => e = .returned (.bool true) ∧ Below w.heap.size w w' := by
  have b0 := bounds_u32 w0
  have b1 := bounds_u32 w1
  obtain ⟨a, rfl⟩ := Int.eq_ofNat_of_zero_le b0.1
  obtain ⟨b, rfl⟩ := Int.eq_ofNat_of_zero_le b1.1
  have ha : a ≤ 4294967295 := by omega
  have hb : b ≤ 4294967295 := by omega
  clear b0 b1 w0 w1
  obtain ⟨x, hx⟩ : ∃ r, oneW a = r := ⟨_, rfl⟩
  obtain ⟨y, hy⟩ : ∃ r, oneW b = r := ⟨_, rfl⟩
  obtain ⟨S, hS⟩ : ∃ r, sumW a b = r := ⟨_, rfl⟩
  obtain ⟨R, hR⟩ : ∃ r, restW a b = r := ⟨_, rfl⟩
  obtain ⟨P, hP⟩ : ∃ r, productW a b = r := ⟨_, rfl⟩
  obtain ⟨Q, hQ⟩ : ∃ r, ratioW a b = r := ⟨_, rfl⟩
  obtain ⟨T, hT⟩ : ∃ r, rootW a = r := ⟨_, rfl⟩
  obtain ⟨U, hU⟩ : ∃ r, aboveW a = r := ⟨_, rfl⟩
  obtain ⟨D, hD⟩ : ∃ r, belowW a = r := ⟨_, rfl⟩
  have hSl : S ≤ 4294967295 := hS ▸ sumW_le a b
  have hRl : R ≤ 4294967295 := hR ▸ restW_le a b
  have hPl : P ≤ 4294967295 := hP ▸ productW_le a b
  have hQl : Q ≤ 4294967295 := hQ ▸ ratioW_le a b
  have hTl : T ≤ 4294967295 := hT ▸ res_lt _
  have hUl : U ≤ 4294967295 := hU ▸ aboveW_lt ha
  have hDl : D ≤ 4294967295 := hD ▸ belowW_lt ha
  have hxl : x ≤ 4294967295 := by rw [← hx]; unfold oneW; split <;> omega
  have r1 := read_one a
  have r2 := read_one b
  rw [hx] at r1
  rw [hy] at r2
  have o1 := Lib.hid (fun W => one_any a x ha hx W)
  have o2 := Lib.hid (fun W => one_any b y hb hy W)
  have c1 := Lib.hid (fun W => Sum_is a b S hS W)
  have c2 := Lib.hid (fun W => Rest_is a b R hR W)
  have c3 := Lib.hid (fun W => Product_is a b P hP W)
  have c4 := Lib.hid (fun W => Ratio_is a b Q hQ W)
  have c5 := Lib.hid (fun W => Root_is a T ha hT W)
  have c6 := Lib.hid (fun W => Above_is a U ha hU W)
  have c7 := Lib.hid (fun W => Below_is a D ha hD W)
  have k1 := Lib.hid (fun W => clean_any S hSl (hS ▸ clean_res _ (fun _ => sum_notNaN)) W)
  have k2 := Lib.hid (fun W => clean_any R hRl (hR ▸ clean_res _ (fun _ => sum_notNaN)) W)
  have k3 := Lib.hid (fun W => clean_any P hPl (hP ▸ clean_res _ (fun _ => product_notNaN)) W)
  have k4 := Lib.hid (fun W => clean_any Q hQl (hQ ▸ clean_res _ (fun _ => quotient_notNaN)) W)
  have k5 := Lib.hid (fun W => clean_any T hTl (hT ▸ clean_res _ (fun _ => root_notNaN)) W)
  have k6 := Lib.hid (fun W => clean_any U hUl (hU ▸ clean_above a ha) W)
  have k7 := Lib.hid (fun W => clean_any D hDl (hD ▸ clean_below a ha) W)
  have d1 := Lib.hid (fun W => Sum_is x y S (by rw [← hS]; unfold sumW Ieee.Format.add; rw [sum_noNaN _ _ _ _ r1 r2]) W)
  have d2 := Lib.hid (fun W => Rest_is x y R (by rw [← hR]; unfold restW Ieee.Format.sub; rw [sum_noNaN _ _ _ _ r1 (opp_same r2)]) W)
  have d3 := Lib.hid (fun W => Product_is x y P (by rw [← hP]; unfold productW Ieee.Format.mul; rw [product_noNaN _ _ _ _ r1 r2]) W)
  have d4 := Lib.hid (fun W => Ratio_is x y Q (by rw [← hQ]; unfold ratioW Ieee.Format.div; rw [quotient_noNaN _ _ _ _ _ r1 r2]) W)
  have d5 := Lib.hid (fun W => Root_is x T hxl (by rw [← hT]; unfold rootW Ieee.Format.sqrt; rw [root_noNaN _ _ _ r1]) W)
  have nn : (NoNum a ∨ NoNum b) → S = 2143289344 ∧ R = 2143289344 ∧ P = 2143289344 ∧ Q = 2143289344 := fun h => by
    rw [← hS, ← hR, ← hP, ← hQ]; exact none_all a b h
  clear hx hy hS hR hP hQ hT hU hD hSl hRl hPl hQl hTl hUl hDl hxl r1 r2
  by_cases na : NoNum a
  · obtain ⟨rfl, rfl, rfl, rfl⟩ := nn (.inl na)
    have i1 := Lib.hid (fun W => isNone_any a ha true (decide_eq_true (show 2139095040 < a % 2147483648 from na)) W)
    have s1 := Lib.hid (fun W => Stand_is a b 1 (side_no a b (.inl na)) W)
    have s2 := Lib.hid (fun W => Stand_is a a 1 (side_no a a (.inl na)) W)
    clear nn na ha hb
    go_enter Try.func10, Try.ntmps10
    go_wp2_with fail
    refine (o1.out _).mono ?_
    rintro e w' ⟨rfl, rfl⟩
    go_wp2_with fail
    refine (o2.out _).mono ?_
    rintro e w' ⟨rfl, rfl⟩
    go_wp2_with fail
    refine (c1.out _).mono ?_
    rintro e w' ⟨rfl, z0, rfl⟩
    go_wp2_with fail
    refine (c2.out _).mono ?_
    rintro e w' ⟨rfl, z1, rfl⟩
    go_wp2_with fail
    refine (c3.out _).mono ?_
    rintro e w' ⟨rfl, z2, rfl⟩
    go_wp2_with fail
    refine (c4.out _).mono ?_
    rintro e w' ⟨rfl, z3, rfl⟩
    go_wp2_with fail
    refine (c5.out _).mono ?_
    rintro e w' ⟨rfl, z4, rfl⟩
    go_wp2_with fail
    refine (k1.out _).mono ?_
    rintro e w' ⟨rfl, rfl⟩
    go_wp2_with fail
    refine (k2.out _).mono ?_
    rintro e w' ⟨rfl, rfl⟩
    go_wp2_with fail
    refine (k3.out _).mono ?_
    rintro e w' ⟨rfl, rfl⟩
    go_wp2_with fail
    refine (k4.out _).mono ?_
    rintro e w' ⟨rfl, rfl⟩
    go_wp2_with fail
    refine (k5.out _).mono ?_
    rintro e w' ⟨rfl, rfl⟩
    go_wp2_with fail
    refine (c6.out _).mono ?_
    rintro e w' ⟨rfl, rfl⟩
    go_wp2_with fail
    refine (k6.out _).mono ?_
    rintro e w' ⟨rfl, rfl⟩
    go_wp2_with fail
    refine (c7.out _).mono ?_
    rintro e w' ⟨rfl, rfl⟩
    go_wp2_with fail
    refine (k7.out _).mono ?_
    rintro e w' ⟨rfl, rfl⟩
    go_wp2_with fail
    refine (d1.out _).mono ?_
    rintro e w' ⟨rfl, y0, rfl⟩
    go_wp2_with fail
    refine (d2.out _).mono ?_
    rintro e w' ⟨rfl, y1, rfl⟩
    go_wp2_with fail
    refine (d3.out _).mono ?_
    rintro e w' ⟨rfl, y2, rfl⟩
    go_wp2_with fail
    refine (d4.out _).mono ?_
    rintro e w' ⟨rfl, y3, rfl⟩
    go_wp2_with fail
    refine (d5.out _).mono ?_
    rintro e w' ⟨rfl, y4, rfl⟩
    go_wp2_with fail
    refine (i1.out _).mono ?_
    rintro e w' ⟨rfl, rfl⟩
    go_wp2_with fail
    refine (s1.out _).mono ?_
    rintro e w' ⟨rfl, rfl⟩
    go_wp2_with fail
    refine (s2.out _).mono ?_
    rintro e w' ⟨rfl, rfl⟩
    go_wp2_with fail
    refine (i1.out _).mono ?_
    rintro e w' ⟨rfl, rfl⟩
    go_wp2_with fail
    refine (awake_any _).mono ?_
    rintro e w' ⟨rfl, z9, rfl⟩
    go_wp2
    go_ret
    exact ⟨ret_eq (by simp), below_drewN (Below.refl _ _) _⟩
  · have i1 := Lib.hid (fun W => isNone_any a ha false (decide_eq_false (show ¬ 2139095040 < a % 2147483648 from na)) W)
    have s2 := Lib.hid (fun W => Stand_is a a 3 (side_eq a a ha ha na na rfl) W)
    by_cases nb : NoNum b
    · obtain ⟨rfl, rfl, rfl, rfl⟩ := nn (.inr nb)
      have i2 := Lib.hid (fun W => isNone_any b hb true (decide_eq_true (show 2139095040 < b % 2147483648 from nb)) W)
      have s1 := Lib.hid (fun W => Stand_is a b 1 (side_no a b (.inr nb)) W)
      clear nn na nb ha hb
      go_enter Try.func10, Try.ntmps10
      go_wp2_with fail
      refine (o1.out _).mono ?_
      rintro e w' ⟨rfl, rfl⟩
      go_wp2_with fail
      refine (o2.out _).mono ?_
      rintro e w' ⟨rfl, rfl⟩
      go_wp2_with fail
      refine (c1.out _).mono ?_
      rintro e w' ⟨rfl, z0, rfl⟩
      go_wp2_with fail
      refine (c2.out _).mono ?_
      rintro e w' ⟨rfl, z1, rfl⟩
      go_wp2_with fail
      refine (c3.out _).mono ?_
      rintro e w' ⟨rfl, z2, rfl⟩
      go_wp2_with fail
      refine (c4.out _).mono ?_
      rintro e w' ⟨rfl, z3, rfl⟩
      go_wp2_with fail
      refine (c5.out _).mono ?_
      rintro e w' ⟨rfl, z4, rfl⟩
      go_wp2_with fail
      refine (k1.out _).mono ?_
      rintro e w' ⟨rfl, rfl⟩
      go_wp2_with fail
      refine (k2.out _).mono ?_
      rintro e w' ⟨rfl, rfl⟩
      go_wp2_with fail
      refine (k3.out _).mono ?_
      rintro e w' ⟨rfl, rfl⟩
      go_wp2_with fail
      refine (k4.out _).mono ?_
      rintro e w' ⟨rfl, rfl⟩
      go_wp2_with fail
      refine (k5.out _).mono ?_
      rintro e w' ⟨rfl, rfl⟩
      go_wp2_with fail
      refine (c6.out _).mono ?_
      rintro e w' ⟨rfl, rfl⟩
      go_wp2_with fail
      refine (k6.out _).mono ?_
      rintro e w' ⟨rfl, rfl⟩
      go_wp2_with fail
      refine (c7.out _).mono ?_
      rintro e w' ⟨rfl, rfl⟩
      go_wp2_with fail
      refine (k7.out _).mono ?_
      rintro e w' ⟨rfl, rfl⟩
      go_wp2_with fail
      refine (d1.out _).mono ?_
      rintro e w' ⟨rfl, y0, rfl⟩
      go_wp2_with fail
      refine (d2.out _).mono ?_
      rintro e w' ⟨rfl, y1, rfl⟩
      go_wp2_with fail
      refine (d3.out _).mono ?_
      rintro e w' ⟨rfl, y2, rfl⟩
      go_wp2_with fail
      refine (d4.out _).mono ?_
      rintro e w' ⟨rfl, y3, rfl⟩
      go_wp2_with fail
      refine (d5.out _).mono ?_
      rintro e w' ⟨rfl, y4, rfl⟩
      go_wp2_with fail
      refine (i1.out _).mono ?_
      rintro e w' ⟨rfl, rfl⟩
      go_wp2_with fail
      refine (i2.out _).mono ?_
      rintro e w' ⟨rfl, rfl⟩
      go_wp2_with fail
      refine (s1.out _).mono ?_
      rintro e w' ⟨rfl, rfl⟩
      go_wp2_with fail
      refine (s2.out _).mono ?_
      rintro e w' ⟨rfl, rfl⟩
      go_wp2_with fail
      refine (i1.out _).mono ?_
      rintro e w' ⟨rfl, rfl⟩
      go_wp2_with fail
      refine (awake_any _).mono ?_
      rintro e w' ⟨rfl, z9, rfl⟩
      go_wp2
      go_ret
      exact ⟨ret_eq (by simp), below_drewN (Below.refl _ _) _⟩
    · have i2 := Lib.hid (fun W => isNone_any b hb false (decide_eq_false (show ¬ 2139095040 < b % 2147483648 from nb)) W)
      clear nn na nb ha hb
      go_enter Try.func10, Try.ntmps10
      go_wp2_with fail
      refine (o1.out _).mono ?_
      rintro e w' ⟨rfl, rfl⟩
      go_wp2_with fail
      refine (o2.out _).mono ?_
      rintro e w' ⟨rfl, rfl⟩
      go_wp2_with fail
      refine (c1.out _).mono ?_
      rintro e w' ⟨rfl, z0, rfl⟩
      go_wp2_with fail
      refine (c2.out _).mono ?_
      rintro e w' ⟨rfl, z1, rfl⟩
      go_wp2_with fail
      refine (c3.out _).mono ?_
      rintro e w' ⟨rfl, z2, rfl⟩
      go_wp2_with fail
      refine (c4.out _).mono ?_
      rintro e w' ⟨rfl, z3, rfl⟩
      go_wp2_with fail
      refine (c5.out _).mono ?_
      rintro e w' ⟨rfl, z4, rfl⟩
      go_wp2_with fail
      refine (k1.out _).mono ?_
      rintro e w' ⟨rfl, rfl⟩
      go_wp2_with fail
      refine (k2.out _).mono ?_
      rintro e w' ⟨rfl, rfl⟩
      go_wp2_with fail
      refine (k3.out _).mono ?_
      rintro e w' ⟨rfl, rfl⟩
      go_wp2_with fail
      refine (k4.out _).mono ?_
      rintro e w' ⟨rfl, rfl⟩
      go_wp2_with fail
      refine (k5.out _).mono ?_
      rintro e w' ⟨rfl, rfl⟩
      go_wp2_with fail
      refine (c6.out _).mono ?_
      rintro e w' ⟨rfl, rfl⟩
      go_wp2_with fail
      refine (k6.out _).mono ?_
      rintro e w' ⟨rfl, rfl⟩
      go_wp2_with fail
      refine (c7.out _).mono ?_
      rintro e w' ⟨rfl, rfl⟩
      go_wp2_with fail
      refine (k7.out _).mono ?_
      rintro e w' ⟨rfl, rfl⟩
      go_wp2_with fail
      refine (d1.out _).mono ?_
      rintro e w' ⟨rfl, y0, rfl⟩
      go_wp2_with fail
      refine (d2.out _).mono ?_
      rintro e w' ⟨rfl, y1, rfl⟩
      go_wp2_with fail
      refine (d3.out _).mono ?_
      rintro e w' ⟨rfl, y2, rfl⟩
      go_wp2_with fail
      refine (d4.out _).mono ?_
      rintro e w' ⟨rfl, y3, rfl⟩
      go_wp2_with fail
      refine (d5.out _).mono ?_
      rintro e w' ⟨rfl, y4, rfl⟩
      go_wp2_with fail
      refine (i1.out _).mono ?_
      rintro e w' ⟨rfl, rfl⟩
      go_wp2_with fail
      refine (i2.out _).mono ?_
      rintro e w' ⟨rfl, rfl⟩
      go_wp2_with fail
      refine (s2.out _).mono ?_
      rintro e w' ⟨rfl, rfl⟩
      go_wp2_with fail
      refine (i1.out _).mono ?_
      rintro e w' ⟨rfl, rfl⟩
      go_wp2_with fail
      refine (awake_any _).mono ?_
      rintro e w' ⟨rfl, z9, rfl⟩
      go_wp2
      go_ret
      exact ⟨ret_eq (by simp), below_drewN (Below.refl _ _) _⟩

/-! ### THE ROW's STEP: WRITTEN OUT: LEAVE IT -/
set_option maxRecDepth 100000 in
theorem lifted (os : Os) (started : os.Started) (H : Type) (enc : TypeId × Value → H) :
    ReturnsInHanded {} Try.checked os 10 .any (Rows.singleOneSpec.pre6 enc Try.prog Try.f10 Rows.singleOneRow.domain false) (Rows.singleOneSpec.post enc Try.prog Try.f10 false true false false) := by
  refine returnsInHanded_of_change (C := Try.checked) own started (by kernel_rfl) Try.func10
    (ChangeSpec.witness6 (enc := enc) (C := Try.checked) false ⟨#[], #[.int .u32 0, .int .u32 0], []⟩ 8 (by kernel_rfl) (by kernel_rfl) (by kernel_rfl) (by kernel_rfl)) ?_
  intro W base args ds gs before hval0 hW hcnd _
  have hval : ∀ (j : Nat) t v, Try.f10.params[j]? = some t → args[j]? = some v → Value.okWide Try.prog W .any base t v := hval0
  have hW' := hW
  obtain ⟨p, q, hA0, hV, rfl, hfz, hnd⟩ := hW
  have hA : DataW.TrodAll enc Try.prog W 0 (fun _ => true) true Try.f10.params.toList args.toList ds p := hA0
  rw [Try.params10] at hA hval
  obtain ⟨v0, vs0, d0, ds0, p0, q0, hargs, rfl, rfl, h0, r0⟩ := trodAll_cons hA
  obtain ⟨v1, vs1, d1, ds1, p1, q1, rfl, rfl, rfl, h1, r1⟩ := trodAll_cons r0
  obtain ⟨rfl, rfl, rfl⟩ := trodAll_nil r1
  obtain rfl : args = #[v0, v1] := by cases args; simp_all
  obtain ⟨rfl, rfl⟩ := trodVars_none hV
  obtain ⟨a0, rfl, rfl, rfl, w0⟩ := open_int Try.underlying23 (hval 0 23 v0 rfl rfl) h0
  obtain ⟨a1, rfl, rfl, rfl, w1⟩ := open_int Try.underlying23 (hval 1 23 v1 rfl rfl) h1
  clear hA0 hval0
  simp only [List.append_nil] at hW'
  refine (walk a0 a1 w0 w1 W).mono fun e W' ⟨he, hg⟩ => ?_
  subst he
  exact ⟨_, rfl, _, _, _, [], [], [], hW', (trodAll_cons_mk (shut_bool Try.underlying4 _) trodAll_mk0), (trodAll_cons_mk (shut_int Try.underlying23 w0) (trodAll_cons_mk (shut_int Try.underlying23 w1) trodAll_mk0)), rfl, hg.frame _, fun h => by cases h⟩

theorem over : Rows.singleOneRow.holds Try.pinned (OpenSpec.ofChange Rows.singleOneSpec) :=
  OpenClaim.holds_of_wide 10 Try.f10 rfl rfl rfl rfl rfl rfl rfl ⟨rfl, rfl, rfl, rfl, rfl⟩ rfl rfl rfl rfl rfl (by kernel_rfl) Try.func10 (by kernel_rfl)
    (of_decide_eq_true (by kernel_rfl)) (by unfold Func.isWrapper; first | (rw [if_pos (by decide +kernel)]; kernel_rfl) | (rw [if_neg (by decide +kernel)]; exact ⟨rfl, rfl⟩))
    (fun os started H enc _ => lifted os started H enc)

/-- ████ THE STATEMENT ████ -/
theorem proved : Rows.SingleOneSaid :=
  over
#print axioms proved
end Go.Proofs.Ytllchfdddfmjbaa.singleOne
