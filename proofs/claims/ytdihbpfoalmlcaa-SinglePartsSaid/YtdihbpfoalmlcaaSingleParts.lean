/- PROVED: SingleParts: every word's parts, and the word of all parts or that there is none, are the document's; no condition. -/
import Derived.Test.YtdihbpfoalmlcaaRows
import Derived.WalkKit
import Derived.ProofKit
import Derived.OpenShut
import Derived.ChangeOld
import Derived.Below
import Derived.Lib.SmallJoins
import Derived.Test.YtdihbpfoalmlcaaPartsL
namespace Go.Proofs.Ytdihbpfoalmlcaa.singleParts
open Go.ChangeShapes Go.WideShapes Go.ChangeAt Go.RowKit
set_option linter.unusedVariables false

theorem own : ownKnob Try.prog.godebug = none := by kernel_rfl
theorem cells1 : Try.prog.cellsOf 34 = 4 := by kernel_rfl

/-! ### THE WALK -/
set_option maxRecDepth 100000 in
set_option maxHeartbeats 1000000 in
theorem walk (a0 : Int) (w0 : (Lit.int .u32 a0).wf = true) (a1_0 : Int) (w1_0 : (Lit.int .u8 a1_0).wf = true) (a1_1 : Bool) (a1_2 : Int) (w1_2 : (Lit.int .u32 a1_2).wf = true) (a1_3 : Int) (w1_3 : (Lit.int .i64 a1_3).wf = true) (w : World) :
    Calls Try.prog 9 #[.int .u32 a0, .agg #[.int .u8 a1_0, .bool a1_1, .int .u32 a1_2, .int .i64 a1_3]] w fun e w' => e = .returned (.bool true) ∧ Below w.heap.size w w' := by
  have b0 := bounds_u32 w0
  have b1 := bounds_u32 w1_2
  obtain ⟨x, rfl⟩ := Int.eq_ofNat_of_zero_le b0.1
  obtain ⟨m, rfl⟩ := Int.eq_ofNat_of_zero_le b1.1
  exact parts_law x (by omega) a1_0 a1_1 m (by omega) a1_3 w

/-! ### THE ROW's STEP -/
set_option maxRecDepth 100000 in
theorem lifted (os : Os) (started : os.Started) (H : Type) (enc : TypeId × Value → H) :
    ReturnsInHanded {} Try.checked os 9 .any (Rows.singlePartsSpec.pre6 enc Try.prog Try.f9 Rows.singlePartsRow.domain false) (Rows.singlePartsSpec.post enc Try.prog Try.f9 false true false false) := by
  refine returnsInHanded_of_change (C := Try.checked) own started (by kernel_rfl) Try.func9
    (ChangeSpec.witness6 (enc := enc) (C := Try.checked) false ⟨#[], #[.int .u32 0, .agg #[.int .u8 0, .bool false, .int .u32 0, .int .i64 0]], []⟩ 8 (by kernel_rfl) (by kernel_rfl) (by kernel_rfl) (by kernel_rfl)) ?_
  intro W base args ds gs before hval0 hW hcnd _
  have hval : ∀ (j : Nat) t v, Try.f9.params[j]? = some t → args[j]? = some v → Value.okWide Try.prog W .any base t v := hval0
  have hW' := hW
  obtain ⟨p, q, hA0, hV, rfl, hfz, hnd⟩ := hW
  have hA : DataW.TrodAll enc Try.prog W 0 (fun _ => true) true Try.f9.params.toList args.toList ds p := hA0
  rw [Try.params9] at hA hval
  obtain ⟨v0, vs0, d0, ds0, p0, q0, hargs, rfl, rfl, h0, r0⟩ := trodAll_cons hA
  obtain ⟨v1, vs1, d1, ds1, p1, q1, rfl, rfl, rfl, h1, r1⟩ := trodAll_cons r0
  obtain ⟨rfl, rfl, rfl⟩ := trodAll_nil r1
  obtain rfl : args = #[v0, v1] := by cases args; simp_all
  obtain ⟨rfl, rfl⟩ := trodVars_none hV
  obtain ⟨a0, rfl, rfl, rfl, w0⟩ := open_int Try.underlying22 (hval 0 22 v0 rfl rfl) h0
  obtain ⟨c1_0, c1_1, c1_2, c1_3, y1_0, y1_1, y1_2, y1_3, m1, rfl, rfl, rfl, hy1_0, hy1_1, hy1_2, hy1_3⟩ := Joins.open_agg4 Try.underlying34 (by kernel_rfl) cells1 (hval 1 34 v1 rfl rfl) h1
  obtain ⟨a1_0, e1_0, rfl, w1_0⟩ := DataW.trod_int Try.underlying32 hy1_0
  obtain ⟨a1_1, e1_1, rfl⟩ := DataW.trod_bool Try.underlying4 hy1_1
  obtain ⟨a1_2, e1_2, rfl, w1_2⟩ := DataW.trod_int Try.underlying22 hy1_2
  obtain ⟨a1_3, e1_3, rfl, w1_3⟩ := DataW.trod_int Try.underlying3 hy1_3
  simp at e1_0 e1_1 e1_2 e1_3
  subst e1_0 e1_1 e1_2 e1_3
  clear hA0 hval0
  simp only [List.append_nil] at hW'
  refine (walk a0 w0 a1_0 w1_0 a1_1 a1_2 w1_2 a1_3 w1_3 W).mono fun e W' ⟨he, hg⟩ => ?_
  subst he
  exact ⟨_, rfl, _, _, _, [], [], [], hW', (trodAll_cons_mk (shut_bool Try.underlying4 _) trodAll_mk0), (trodAll_cons_mk (shut_int Try.underlying22 w0) (trodAll_cons_mk (Joins.shut_agg4 Try.underlying34 (by kernel_rfl) cells1 (Joins.field_of_Trod (shut_int Try.underlying32 w1_0) rfl) (Joins.field_of_Trod (shut_bool Try.underlying4 a1_1) rfl) (Joins.field_of_Trod (shut_int Try.underlying22 w1_2) rfl) (Joins.field_of_Trod (shut_int Try.underlying3 w1_3) rfl)) trodAll_mk0)), rfl, hg.frame _, fun h => by cases h⟩

theorem over : Rows.singlePartsRow.holds Try.pinned (OpenSpec.ofChange Rows.singlePartsSpec) :=
  OpenClaim.holds_of_wide 9 Try.f9 rfl rfl rfl rfl rfl rfl rfl ⟨rfl, rfl, rfl, rfl, rfl⟩ rfl rfl rfl rfl rfl (by kernel_rfl) Try.func9 (by kernel_rfl)
    (of_decide_eq_true (by kernel_rfl)) (by unfold Func.isWrapper; first | (rw [if_pos (by decide +kernel)]; kernel_rfl) | (rw [if_neg (by decide +kernel)]; exact ⟨rfl, rfl⟩))
    (fun os started H enc _ => lifted os started H enc)

/-- ████ THE STATEMENT ████ -/
theorem proved : Rows.SinglePartsSaid :=
  over
#print axioms proved
end Go.Proofs.Ytdihbpfoalmlcaa.singleParts
