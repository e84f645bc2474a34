/- PROVED: SingleWhole: whole numbers of at most 2^24 in size come back, are added without loss, and up to 2^12 multiplied; no condition. -/
import Derived.Test.YtllchfdddfmjbaaRows
import Derived.WalkKit
import Derived.ProofKit
import Derived.OpenShut
import Derived.ChangeOld
import Derived.Below
import Derived.Test.YtllchfdddfmjbaaWhole
namespace Go.Proofs.Ytllchfdddfmjbaa.singleWhole
open Go.ChangeShapes Go.WideShapes Go.ChangeAt Go.RowKit
set_option linter.unusedVariables false      -- a walk need not use every 'w<i>' (that an integer argument fits its kind)

theorem own : ownKnob Try.prog.godebug = none := by kernel_rfl

/-! ### THE WALK -/
set_option maxRecDepth 100000 in
set_option maxHeartbeats 1000000 in
theorem walk (a0 : Int) (a1 : Int) (w0 : (Lit.int .i32 a0).wf = true) (w1 : (Lit.int .i32 a1).wf = true) (w : World) :
    Calls Try.prog 3 #[.int .i32 a0, .int .i32 a1] w fun e w' => e = .returned (.bool true) ∧ Below w.heap.size w w' := by
  have b0 := bounds_i32 w0
  have b1 := bounds_i32 w1
  obtain ⟨n, hn⟩ : ∃ n, a0.tmod 16777217 = n := ⟨_, rfl⟩
  obtain ⟨m, hm⟩ : ∃ n, a1.tmod 16777217 = n := ⟨_, rfl⟩
  obtain ⟨x, hx⟩ : ∃ n, a0.tmod 4097 = n := ⟨_, rfl⟩
  obtain ⟨y, hy⟩ : ∃ n, a1.tmod 4097 = n := ⟨_, rfl⟩
  have n1 : n.natAbs ≤ 16777216 := by rw [← hn]; exact tmod_le a0 16777217 (by decide)
  have m1 : m.natAbs ≤ 16777216 := by rw [← hm]; exact tmod_le a1 16777217 (by decide)
  have x1 : x.natAbs ≤ 4096 := by rw [← hx]; exact tmod_le a0 4097 (by decide)
  have y1 : y.natAbs ≤ 4096 := by rw [← hy]; exact tmod_le a1 4097 (by decide)
  have xy1 : (x * y).natAbs ≤ 16777216 := by rw [Int.natAbs_mul]; exact Nat.mul_le_mul x1 y1
  obtain ⟨P, hP⟩ : ∃ P, x * y = P := ⟨_, rfl⟩
  obtain ⟨N, hN⟩ : ∃ N, ofW n = N := ⟨_, rfl⟩
  obtain ⟨M, hM⟩ : ∃ N, ofW m = N := ⟨_, rfl⟩
  obtain ⟨X, hX⟩ : ∃ N, ofW x = N := ⟨_, rfl⟩
  obtain ⟨Y, hY⟩ : ∃ N, ofW y = N := ⟨_, rfl⟩
  obtain ⟨Q, hQ⟩ : ∃ N, ofW P = N := ⟨_, rfl⟩
  obtain ⟨R, hR⟩ : ∃ N, productW X Y = N := ⟨_, rfl⟩
  have c1 := Lib.hid (fun W => Of_is n N hN W)
  have c2 := Lib.hid (fun W => Toward_is N n (by rw [← hN]; exact whole_back n n1) W)
  have c3 := Lib.hid (fun W => Of_is m M hM W)
  have c4 := Lib.hid (fun W => Toward_is M m (by rw [← hM]; exact whole_back m m1) W)
  have d1 := Lib.hid (fun W => Of_is x X hX W)
  have d2 := Lib.hid (fun W => Of_is y Y hY W)
  have d3 := Lib.hid (fun W => Product_is X Y R hR W)
  have d4 := Lib.hid (fun W => Of_is P Q hQ W)
  have d5 := Lib.hid (fun W => Stand_is R Q 3 (by rw [← hR, ← hQ, ← hX, ← hY, ← hP]; exact product_even x y (by omega) (by omega) xy1) W)
  rw [hP] at xy1
  have p1 : -16777216 ≤ P := by omega
  have p2 : P ≤ 16777216 := by omega
  have q1 : -16777216 ≤ n := by omega
  have q2 : n ≤ 16777216 := by omega
  have q3 : -16777216 ≤ m := by omega
  have q4 : m ≤ 16777216 := by omega
  have HS := Lib.hid (fun h : (n + m).natAbs ≤ 16777216 => sum_whole n m n1 m1 h)
  rw [hN, hM] at HS
  clear hN hM hX hY hQ hR n1 m1 x1 y1 xy1 b0 b1 w0 w1
  by_cases h1 : n + m ≤ 16777216
  · by_cases h2 : -16777216 ≤ n + m
    · obtain ⟨S, hS⟩ : ∃ N, ofW (n + m) = N := ⟨_, rfl⟩
      have e1 := Lib.hid (fun W => Sum_is N M S (by rw [HS.out (by omega)]; exact hS) W)
      have e2 := Lib.hid (fun W => Of_is (n + m) S hS W)
      clear hS HS
      go_enter Try.func3, Try.ntmps3
      go_wp2_with fail
      refine (c1.out _).mono ?_
      rintro e w' ⟨rfl, rfl⟩
      go_wp2_with fail
      refine (c2.out _).mono ?_
      rintro e w' ⟨rfl, rfl⟩
      go_wp2_with fail
      refine (c3.out _).mono ?_
      rintro e w' ⟨rfl, rfl⟩
      go_wp2_with fail
      refine (c4.out _).mono ?_
      rintro e w' ⟨rfl, rfl⟩
      go_wp2_with fail
      refine (c1.out _).mono ?_
      rintro e w' ⟨rfl, rfl⟩
      go_wp2_with fail
      refine (c3.out _).mono ?_
      rintro e w' ⟨rfl, rfl⟩
      go_wp2_with fail
      refine (e1.out _).mono ?_
      rintro e w' ⟨rfl, k1, rfl⟩
      go_wp2_with fail
      refine (e2.out _).mono ?_
      rintro e w' ⟨rfl, rfl⟩
      go_wp2_with fail
      refine (d1.out _).mono ?_
      rintro e w' ⟨rfl, rfl⟩
      go_wp2_with fail
      refine (d2.out _).mono ?_
      rintro e w' ⟨rfl, rfl⟩
      go_wp2_with fail
      refine (d3.out _).mono ?_
      rintro e w' ⟨rfl, k2, rfl⟩
      go_wp2_with fail
      refine (d4.out _).mono ?_
      rintro e w' ⟨rfl, rfl⟩
      go_wp2_with fail
      refine (d5.out _).mono ?_
      rintro e w' ⟨rfl, rfl⟩
      go_wp2
      go_ret
      exact ⟨ret_eq (by simp), below_drewN (Below.refl _ _) _⟩
    · clear HS
      go_enter Try.func3, Try.ntmps3
      go_wp2_with fail
      refine (c1.out _).mono ?_
      rintro e w' ⟨rfl, rfl⟩
      go_wp2_with fail
      refine (c2.out _).mono ?_
      rintro e w' ⟨rfl, rfl⟩
      go_wp2_with fail
      refine (c3.out _).mono ?_
      rintro e w' ⟨rfl, rfl⟩
      go_wp2_with fail
      refine (c4.out _).mono ?_
      rintro e w' ⟨rfl, rfl⟩
      go_wp2_with fail
      refine (d1.out _).mono ?_
      rintro e w' ⟨rfl, rfl⟩
      go_wp2_with fail
      refine (d2.out _).mono ?_
      rintro e w' ⟨rfl, rfl⟩
      go_wp2_with fail
      refine (d3.out _).mono ?_
      rintro e w' ⟨rfl, k2, rfl⟩
      go_wp2_with fail
      refine (d4.out _).mono ?_
      rintro e w' ⟨rfl, rfl⟩
      go_wp2_with fail
      refine (d5.out _).mono ?_
      rintro e w' ⟨rfl, rfl⟩
      go_wp2
      go_ret
      exact ⟨ret_eq (by simp), below_drewN (Below.refl _ _) _⟩
  · clear HS
    go_enter Try.func3, Try.ntmps3
    go_wp2_with fail
    refine (c1.out _).mono ?_
    rintro e w' ⟨rfl, rfl⟩
    go_wp2_with fail
    refine (c2.out _).mono ?_
    rintro e w' ⟨rfl, rfl⟩
    go_wp2_with fail
    refine (c3.out _).mono ?_
    rintro e w' ⟨rfl, rfl⟩
    go_wp2_with fail
    refine (c4.out _).mono ?_
    rintro e w' ⟨rfl, rfl⟩
    go_wp2_with fail
    refine (d1.out _).mono ?_
    rintro e w' ⟨rfl, rfl⟩
    go_wp2_with fail
    refine (d2.out _).mono ?_
    rintro e w' ⟨rfl, rfl⟩
    go_wp2_with fail
    refine (d3.out _).mono ?_
    rintro e w' ⟨rfl, k2, rfl⟩
    go_wp2_with fail
    refine (d4.out _).mono ?_
    rintro e w' ⟨rfl, rfl⟩
    go_wp2_with fail
    refine (d5.out _).mono ?_
    rintro e w' ⟨rfl, rfl⟩
    go_wp2
    go_ret
    exact ⟨ret_eq (by simp), below_drewN (Below.refl _ _) _⟩

/-! ### THE ROW's STEP: WRITTEN OUT: LEAVE IT -/
set_option maxRecDepth 100000 in
theorem lifted (os : Os) (started : os.Started) (H : Type) (enc : TypeId × Value → H) :
    ReturnsInHanded {} Try.checked os 3 .any (Rows.singleWholeSpec.pre6 enc Try.prog Try.f3 Rows.singleWholeRow.domain false) (Rows.singleWholeSpec.post enc Try.prog Try.f3 false true false false) := by
  refine returnsInHanded_of_change (C := Try.checked) own started (by kernel_rfl) Try.func3
    (ChangeSpec.witness6 (enc := enc) (C := Try.checked) false ⟨#[], #[.int .i32 0, .int .i32 0], []⟩ 8 (by kernel_rfl) (by kernel_rfl) (by kernel_rfl) (by kernel_rfl)) ?_
  intro W base args ds gs before hval0 hW hcnd _
  have hval : ∀ (j : Nat) t v, Try.f3.params[j]? = some t → args[j]? = some v → Value.okWide Try.prog W .any base t v := hval0
  have hW' := hW
  obtain ⟨p, q, hA0, hV, rfl, hfz, hnd⟩ := hW
  have hA : DataW.TrodAll enc Try.prog W 0 (fun _ => true) true Try.f3.params.toList args.toList ds p := hA0
  rw [Try.params3] at hA hval
  obtain ⟨v0, vs0, d0, ds0, p0, q0, hargs, rfl, rfl, h0, r0⟩ := trodAll_cons hA
  obtain ⟨v1, vs1, d1, ds1, p1, q1, rfl, rfl, rfl, h1, r1⟩ := trodAll_cons r0
  obtain ⟨rfl, rfl, rfl⟩ := trodAll_nil r1
  obtain rfl : args = #[v0, v1] := by cases args; simp_all
  obtain ⟨rfl, rfl⟩ := trodVars_none hV
  obtain ⟨a0, rfl, rfl, rfl, w0⟩ := open_int Try.underlying21 (hval 0 21 v0 rfl rfl) h0
  obtain ⟨a1, rfl, rfl, rfl, w1⟩ := open_int Try.underlying21 (hval 1 21 v1 rfl rfl) h1
  clear hA0 hval0
  simp only [List.append_nil] at hW'
  refine (walk a0 a1 w0 w1 W).mono fun e W' ⟨he, hg⟩ => ?_
  subst he
  exact ⟨_, rfl, _, _, _, [], [], [], hW', (trodAll_cons_mk (shut_bool Try.underlying4 _) trodAll_mk0), (trodAll_cons_mk (shut_int Try.underlying21 w0) (trodAll_cons_mk (shut_int Try.underlying21 w1) trodAll_mk0)), rfl, hg.frame _, fun h => by cases h⟩

theorem over : Rows.singleWholeRow.holds Try.pinned (OpenSpec.ofChange Rows.singleWholeSpec) :=
  OpenClaim.holds_of_wide 3 Try.f3 rfl rfl rfl rfl rfl rfl rfl ⟨rfl, rfl, rfl, rfl, rfl⟩ rfl rfl rfl rfl rfl (by kernel_rfl) Try.func3 (by kernel_rfl)
    (of_decide_eq_true (by kernel_rfl)) (by unfold Func.isWrapper; first | (rw [if_pos (by decide +kernel)]; kernel_rfl) | (rw [if_neg (by decide +kernel)]; exact ⟨rfl, rfl⟩))
    (fun os started H enc _ => lifted os started H enc)

/-- ████ THE STATEMENT ████ -/
theorem proved : Rows.SingleWholeSaid :=
  over
#print axioms proved
end Go.Proofs.Ytllchfdddfmjbaa.singleWhole
