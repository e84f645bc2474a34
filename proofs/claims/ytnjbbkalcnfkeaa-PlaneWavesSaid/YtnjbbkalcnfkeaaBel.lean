/- What a call leaves alone: steps and draws. -/
import Derived.Test.YtnjbbkalcnfkeaaFloat
import Derived.Below
namespace Go.Proofs.Ytnjbbkalcnfkeaa
open Go.RowKit

theorem bel_drewN {B : Nat} {a w : World} (h : Below B a w) (n : Nat) : Below B a (w.drewN n) := ⟨h.os, h.tape, h.output, h.size, h.block⟩

/-- A call that hands back v, and touches nothing old. -/
def Ret (w : World) (v : Value) (e : Ending) (w' : World) : Prop := e = .returned v ∧ Below w.heap.size w w'

/-- What a callee has left alone reads as it did. -/
theorem bel_cells {W w1 : World} (hb : Below W.heap.size W w1) : (∀ b o, b < W.heap.size → w1.cell? ⟨b, o, none⟩ = W.cell? ⟨b, o, none⟩) ∧ (∀ b o, b < W.heap.size → w1.frozen? ⟨b, o, none⟩ = W.frozen? ⟨b, o, none⟩) :=
  ⟨fun b o h => hb.cell (p := ⟨b, o, none⟩) h, fun b o h => hb.frozen (p := ⟨b, o, none⟩) h⟩

theorem bel_set4 {B : Nat} {a w1 : World} (h : Below B a w1) {b : Nat} (hb : B ≤ b) (x0 x1 x2 x3 : Value) :
    Below B a ((((w1.setCell ⟨b, 0, none⟩ x0).setCell ⟨b, 1, none⟩ x1).setCell ⟨b, 2, none⟩ x2).setCell ⟨b, 3, none⟩ x3) :=
  (((h.setCell (p := ⟨b, 0, none⟩) hb _).setCell (p := ⟨b, 1, none⟩) hb _).setCell (p := ⟨b, 2, none⟩) hb _).setCell (p := ⟨b, 3, none⟩) hb _
theorem bel_two (w : World) (o o' : Obj) {w1 : World} (h : Below ((w.alloc o).alloc o').heap.size ((w.alloc o).alloc o') w1) : Below w.heap.size w w1 :=
  (((Below.refl _ _).alloc (Nat.le_refl _) _).alloc (by simp) _).trans (h.mono (by simp; omega))

/-! ### Nothing old is touched: step by step, from the last one back -/
theorem bs_alloc {a w : World} (h : Below a.heap.size a w) (o : Obj) : Below a.heap.size a (w.alloc o) := h.alloc h.size o
theorem bs_step {a w w1 : World} (h : Below a.heap.size a w) (hb : Below w.heap.size w w1) : Below a.heap.size a w1 := h.trans (hb.mono h.size)
theorem bs_set {a w : World} (h : Below a.heap.size a w) (b i : Nat) (u : Value) (hb : a.heap.size ≤ b) : Below a.heap.size a (w.setCell ⟨b, i, none⟩ u) := h.setCell (p := ⟨b, i, none⟩) hb u
theorem bs_drewN {a w : World} (h : Below a.heap.size a w) (n : Nat) : Below a.heap.size a (w.drewN n) := bel_drewN h n
theorem bs_drew {a w : World} (h : Below a.heap.size a w) : Below a.heap.size a w.drew := h.drew

/-- A cell that a callee has left alone. -/
theorem keepc {W w1 : World} (hb : Below W.heap.size W w1) {a : Addr} {v : Value} (hc : W.cell? a = some v) : w1.cell? a = some v :=
  (hb.cell (World.block_lt_of_cell? W a hc)).trans hc

theorem keepf {W w1 : World} (hb : Below W.heap.size W w1) {a : Addr} {v : Value} (hc : W.cell? a = some v) (hf : W.frozen? a = false) : w1.frozen? a = false :=
  (hb.frozen (World.block_lt_of_cell? W a hc)).trans hf
end Go.Proofs.Ytnjbbkalcnfkeaa
