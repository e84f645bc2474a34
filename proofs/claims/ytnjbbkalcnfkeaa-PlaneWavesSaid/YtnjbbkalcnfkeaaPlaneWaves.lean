/- PlaneWaves: WHATEVER THE LIST OF WHOLE POINTS: the law's function answers true, and the list reads as it did: the points of a spectrum of 1, 2 or 4 whole points are these points; a spectrum of another number but 8 is refused. -/
import Derived.Test.YtnjbbkalcnfkeaaRows
import Derived.WalkKit
import Derived.ProofKit
import Derived.OpenShut
import Derived.ChangeOld
import Derived.Below
import Derived.SizedLaws
import Derived.Deep.SlicePairs
import Derived.Lib.SmallJoins
import Derived.Test.YtnjbbkalcnfkeaaWavE
namespace Go.Proofs.Ytnjbbkalcnfkeaa.planeWaves
open Go.ChangeShapes Go.WideShapes Go.ChangeAt Go.RowKit
set_option linter.unusedVariables false

theorem own : ownKnob Try.prog.godebug = none := by kernel_rfl
theorem laidOut : laidOutB Try.prog = true := by kernel_rfl
theorem cellsOne : Try.prog.cellsOf 3 = 1 := by kernel_rfl
theorem cellsTwo : Try.prog.cellsOf 46 = 2 := by kernel_rfl
theorem bytesTwo : Try.prog.bytesOf 46 = 16 := by kernel_rfl

set_option maxRecDepth 100000 in
theorem lifted (os : Os) (started : os.Started) (H : Type) (enc : TypeId × Value → H) :
    ReturnsInHanded {} Try.checked os 6 .any (Rows.planeWavesSpec.pre6 enc Try.prog Try.f6 Rows.planeWavesRow.domain false) (Rows.planeWavesSpec.post enc Try.prog Try.f6 false true false false) := by
  refine returnsInHanded_of_change_sized (C := Try.checked) own started (by kernel_rfl) Try.func6
    (ChangeSpec.witness6 (enc := enc) (C := Try.checked) false ⟨#[], #[.slice none 0 0], []⟩ 8 (by kernel_rfl) (by kernel_rfl) (by kernel_rfl) (by kernel_rfl)) ?_
  intro W base args ds gs before hval0 hW _ hsz0 _
  have hsz : (DataW.weightsEach Try.prog (Try.f6.params.toList ++ Rows.planeWavesSpec.plain.varTypes Try.prog) (ds ++ gs)).all (· ≤ reachBytes) = true := hsz0
  clear hsz0
  have hval : ∀ (j : Nat) t v, Try.f6.params[j]? = some t → args[j]? = some v → Value.okWide Try.prog W .any base t v := hval0
  have hW' := hW
  obtain ⟨p, q, hA0, hV, rfl, hfz, hnd⟩ := hW
  have hA : DataW.TrodAll enc Try.prog W 0 (fun _ => true) true Try.f6.params.toList args.toList ds p := hA0
  rw [Try.params6] at hA hval hsz
  obtain ⟨v0, vs0, d0, ds0, p0, q0, hargs, rfl, rfl, h0, r0⟩ := trodAll_cons hA
  obtain ⟨rfl, rfl, rfl⟩ := trodAll_nil r0
  obtain rfl : args = #[v0] := by cases args; simp_all
  obtain ⟨rfl, rfl⟩ := trodVars_none hV
  obtain ⟨a0, len, cap, rfl⟩ := okWide_slice Try.underlying42 (hval 0 42 v0 rfl rfl)
  have h0k := h0
  obtain ⟨fuel, hf⟩ := h0
  clear hA0 hval0
  simp only [List.append_nil] at hW'
  have hlt : ∀ x ∈ p0, x.block < W.heap.size := fun x hx => by simpa using hW'.lt x hx
  have hargs2 : ∀ (W' : World), Below W.heap.size W W' → DataW.Trod enc Try.prog W' 0 (fun b => decide (b < W.heap.size)) true 42 (.slice a0 len cap) d0 p0 :=
    fun W' hn => Below.trod laidOut (by kernel_rfl) (of_decide_eq_true (by kernel_rfl)) h0k hn hlt
  have fin : (Calls Try.prog 6 #[.slice a0 len cap] W fun e w' => e = .returned (.bool true) ∧ Below W.heap.size W w') →
      Calls Try.checked.prog 6 #[.slice a0 len cap] W fun e W' => ∃ v, e = Ending.returned v ∧ Rows.planeWavesSpec.post enc Try.checked.prog Try.f6 false true false false W #[.slice a0 len cap] v W' := by
    intro hc
    refine hc.mono fun e W' ⟨he, hg⟩ => ?_
    subst he
    exact ⟨_, rfl, _, _, _, [], _, [], hW', (trodAll_cons_mk (shut_bool Try.underlying4 _) trodAll_mk0), (trodAll_cons_mk (hargs2 _ hg) trodAll_mk0), rfl, hg.frame _, fun h => by cases h⟩
  refine fin ?_
  rcases Deep.open_slice_pairs Try.underlying42 Try.underlying46 cellsTwo rfl rfl cellsOne cellsOne hf with ⟨hcs, hx⟩ | ⟨a, len', cap', m, n, V0, V1, D0, D1, P0, P1, hcs, _, hl, hm, hz, hx, hcell⟩
  · simp [Value.cells] at hcs
    obtain ⟨rfl, rfl, rfl⟩ := hcs
    exact walk_waves none 0 0 0 0 (fun _ => 0) (fun _ => 0) W (fun i h => by omega) (fun i h => by omega) (by omega)
  · simp [Value.cells] at hcs
    obtain ⟨rfl, rfl, rfl⟩ := hcs
    simp only [Prod.mk.injEq] at hx
    obtain ⟨rfl, rfl⟩ := hx
    simp only [if_true] at hz
    have hreach : len * 16 ≤ 140737488351232 := by
      have := sized_slice hsz (j := 0) (t := 42) (e := 46) rfl rfl Try.underlying42
      rw [bytesTwo] at this
      simp only [List.length_map, List.length_range, reachBytes] at this
      omega
    by_cases hl0 : len = 0
    · subst hl0
      exact walk_waves _ 0 0 0 cap (fun _ => 0) (fun _ => 0) W (fun i h => by omega) (fun i h => by omega) (by omega)
    · obtain ⟨b, off, spot⟩ := a
      have hspot : spot = none := by simpa [Addr.add] using World.cell?_spot (hcell 0 (by omega)).1
      subst hspot
      refine walk_waves _ b off len cap (fun i => intOf (V0 i)) (fun i => intOf (V1 i)) W (fun _ _ => rfl) (fun i hi => ?_) hreach
      obtain ⟨c0, c1, t0, t1⟩ := hcell i (by omega)
      obtain ⟨n0, e0, -, -⟩ := DataW.trod_int Try.underlying3 t0
      obtain ⟨n1, e1, -, -⟩ := DataW.trod_int Try.underlying3 t1
      injection e0 with e0
      injection e1 with e1
      rw [add_plain] at c0 c1
      rw [← Nat.add_assoc] at c1
      rw [c0, c1, e0, e1]
      exact ⟨rfl, rfl⟩

theorem over : Rows.planeWavesRow.holds Try.pinned (OpenSpec.ofChange Rows.planeWavesSpec) :=
  OpenClaim.holds_of_wide 6 Try.f6 rfl rfl rfl rfl rfl rfl rfl ⟨rfl, rfl, rfl, rfl, rfl⟩ rfl rfl rfl rfl rfl (by kernel_rfl) Try.func6 (by kernel_rfl)
    (of_decide_eq_true (by kernel_rfl)) (by unfold Func.isWrapper; first | (rw [if_pos (by decide +kernel)]; kernel_rfl) | (rw [if_neg (by decide +kernel)]; exact ⟨rfl, rfl⟩))
    (fun os started H enc _ => lifted os started H enc)

/-- ████ THE STATEMENT ████ -/
theorem proved : Rows.PlaneWavesSaid :=
  over
#print axioms proved
end Go.Proofs.Ytnjbbkalcnfkeaa.planeWaves
