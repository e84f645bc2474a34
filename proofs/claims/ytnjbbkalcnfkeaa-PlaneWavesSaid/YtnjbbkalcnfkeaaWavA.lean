/- Contracts of package plane: the eight roots. -/
import Derived.Test.YtnjbbkalcnfkeaaTurnsC
import Derived.Test.YtnjbbkalcnfkeaaBel
import Derived.Deep.RegionHeld3
import Derived.Deep.MidRow
import Derived.Deep.WholeRow
import Derived.Laws.OwnMore
import Derived.OwnWalk
import Derived.Laws.NewBlocks
namespace Go.Proofs.Ytnjbbkalcnfkeaa
open Go.RowKit Ieee
set_option linter.unusedVariables false

def rtX (m : Nat) : Nat := if m % 8 = 0 then 4607182418800017408 else if m % 8 = 1 then 4604544271217802189 else if m % 8 = 2 then 0 else if m % 8 = 3 then 13827916308072577997 else if m % 8 = 4 then 13830554455654793216 else if m % 8 = 5 then 13827916308072577997 else if m % 8 = 6 then 0 else 4604544271217802189
def rtY (m : Nat) : Nat := if m % 8 = 0 then 0 else if m % 8 = 1 then 13827916308072577997 else if m % 8 = 2 then 13830554455654793216 else if m % 8 = 3 then 13827916308072577997 else if m % 8 = 4 then 0 else if m % 8 = 5 then 4604544271217802189 else if m % 8 = 6 then 4607182418800017408 else 4604544271217802189

theorem store_new (w : World) (t : TypeId) (c : Array Value) (i : Nat) (v : Value) (hi : i < c.size) (hv : v.oneCell' = true) :
    (store ⟨w.heap.size, i, none⟩ v).run Try.prog (w.alloc (.cells c t)) = .ok () (w.alloc (.cells (c.setIfInBounds i v) t)) := by
  have hl : (w.alloc (.cells c t)).heap[w.heap.size]? = some (.cells c t (0, 0)) := heap_alloc_last w _
  have hc : (w.alloc (.cells c t)).cell? ⟨w.heap.size, i, none⟩ = some c[i] := by
    rw [cell_of_row _ _ i c t (0, 0) hl]; simp [hi]
  have hf : (w.alloc (.cells c t)).frozen? ⟨w.heap.size, i, none⟩ = false := by
    rw [World.frozen?_alloc_at _ _ _ _ rfl]
  rw [run_store _ _ _ _ _ hv, hc, hf]
  show Result.ok () ((w.alloc (.cells c t)).setCell ⟨w.heap.size, i, none⟩ v) = _
  congr 1
  simp only [World.setCell, World.alloc]
  congr 1
  apply Array.ext_getElem?
  intro j
  rw [Array.getElem?_modify]
  by_cases h : w.heap.size = j
  · subst h
    simp
  · have h' : ¬ j = w.heap.size := fun e => h e.symm
    simp [h, h', Array.getElem?_push]

set_option maxHeartbeats 4000000 in
theorem root_any (m : Nat) (hm : m ≤ 8) (w : World) : Calls Try.prog 36 #[.int .i64 (m : Int)] w (Ret w (.complex .f64 (rtX m) (rtY m))) := by
  have h : m = 0 ∨ m = 1 ∨ m = 2 ∨ m = 3 ∨ m = 4 ∨ m = 5 ∨ m = 6 ∨ m = 7 ∨ m = 8 := by omega
  rcases h with rfl | rfl | rfl | rfl | rfl | rfl | rfl | rfl | rfl
  all_goals
    go_enter Try.func36, Try.ntmps36
    go_wp2
    iterate 8 (rw [store_new _ _ _ _ _ (by simp) rfl, Result.andThen_ok])
    rw [Oper.upon_skip]
    go_wp2
    go_ret
    exact ⟨rfl, bs_alloc (Below.refl _ _) _⟩
end Go.Proofs.Ytnjbbkalcnfkeaa
