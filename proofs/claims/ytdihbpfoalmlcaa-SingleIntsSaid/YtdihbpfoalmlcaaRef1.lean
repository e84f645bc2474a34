/- Contracts of the reference: the small ones. A value of the reference is a datum of the model's floats. -/
import Derived.Test.YtdihbpfoalmlcaaNat8
import Derived.Deep.RegionHeld3
namespace Go.Proofs.Ytdihbpfoalmlcaa
open Go.RowKit Ieee

/-- The format of binary32, as the reference lays it. -/
def frm : Value := .agg #[.int .i64 24, .int .i64 (-149), .int .i64 104]
/-- A datum, as the reference lays it. -/
def val (s : Int) (m : Bool) (n : Nat) (p : Int) : Value := .agg #[.int .u8 s, .bool m, .int .u64 n, .int .i64 p]
def encD : Datum → Value
  | .number s m p => val 3 s m p
  | .infinity s => val 2 s 0 0
  | .nan _ _ => val 1 false 0 0

/-- A call that hands back v, and touches nothing old. -/
def Ret (w : World) (v : Value) (e : Ending) (w' : World) : Prop := e = .returned v ∧ Below w.heap.size w w'

/-- What a callee has left alone reads as it did. -/
theorem bel_cells {W w1 : World} (hb : Below W.heap.size W w1) : (∀ b o, b < W.heap.size → w1.cell? ⟨b, o, none⟩ = W.cell? ⟨b, o, none⟩) ∧ (∀ b o, b < W.heap.size → w1.frozen? ⟨b, o, none⟩ = W.frozen? ⟨b, o, none⟩) :=
  ⟨fun b o h => hb.cell (p := ⟨b, o, none⟩) h, fun b o h => hb.frozen (p := ⟨b, o, none⟩) h⟩

theorem bel_set4 {B : Nat} {a w1 : World} (h : Below B a w1) {b : Nat} (hb : B ≤ b) (x0 x1 x2 x3 : Value) :
    Below B a ((((w1.setCell ⟨b, 0, none⟩ x0).setCell ⟨b, 1, none⟩ x1).setCell ⟨b, 2, none⟩ x2).setCell ⟨b, 3, none⟩ x3) :=
  (((h.setCell (p := ⟨b, 0, none⟩) hb _).setCell (p := ⟨b, 1, none⟩) hb _).setCell (p := ⟨b, 2, none⟩) hb _).setCell (p := ⟨b, 3, none⟩) hb _
theorem bel_two (w : World) (o o' : Obj) {w1 : World} (h : Below ((w.alloc o).alloc o').heap.size ((w.alloc o).alloc o') w1) : Below w.heap.size w w1 :=
  (((Below.refl _ _).alloc (Nat.le_refl _) _).alloc (by simp) _).trans (h.mono (by simp; omega))

/-! ### Nothing old is touched: step by step, from the last one back -/
theorem bs_alloc {a w : World} (h : Below a.heap.size a w) (o : Obj) : Below a.heap.size a (w.alloc o) := h.alloc h.size o
theorem bs_step {a w w1 : World} (h : Below a.heap.size a w) (hb : Below w.heap.size w w1) : Below a.heap.size a w1 := h.trans (hb.mono h.size)
theorem bs_set {a w : World} (h : Below a.heap.size a w) (b i : Nat) (u : Value) (hb : a.heap.size ≤ b) : Below a.heap.size a (w.setCell ⟨b, i, none⟩ u) := h.setCell (p := ⟨b, i, none⟩) hb u
theorem bs_drewN {a w : World} (h : Below a.heap.size a w) (n : Nat) : Below a.heap.size a (w.drewN n) := bel_drewN h n
theorem bs_drew {a w : World} (h : Below a.heap.size a w) : Below a.heap.size a w.drew := h.drew

/-- A cell that a callee has left alone. -/
theorem keepc {W w1 : World} (hb : Below W.heap.size W w1) {a : Addr} {v : Value} (hc : W.cell? a = some v) : w1.cell? a = some v :=
  (hb.cell (World.block_lt_of_cell? W a hc)).trans hc

theorem keepf {W w1 : World} (hb : Below W.heap.size W w1) {a : Addr} {v : Value} (hc : W.cell? a = some v) (hf : W.frozen? a = false) : w1.frozen? a = false :=
  (hb.frozen (World.block_lt_of_cell? W a hc)).trans hf

theorem single_form (w : World) : Calls Try.prog 45 #[] w (Ret w frm) := by
  go_enter Try.func45, Try.ntmps45
  go_wp2
  exact bodyPost_ret (v := frm) (by simp [results, Try.results45, go_sem, frm]) rfl ⟨rfl, (Below.refl _ _).alloc (Nat.le_refl _) _⟩

theorem none_any (w : World) : Calls Try.prog 67 #[] w (Ret w (val 1 false 0 0)) := by
  go_enter Try.func67, Try.ntmps67
  go_wp2
  exact bodyPost_ret (v := val 1 false 0 0) (by simp [results, Try.results67, go_sem, val]) rfl ⟨rfl, (Below.refl _ _).alloc (Nat.le_refl _) _⟩

theorem endless_any (s : Bool) (w : World) : Calls Try.prog 68 #[.bool s] w (Ret w (val 2 s 0 0)) := by
  go_enter Try.func68, Try.ntmps68
  go_wp2
  exact bodyPost_ret (v := val 2 s 0 0) (by simp [results, Try.results68, go_sem, val]) rfl ⟨rfl, (Below.refl _ _).alloc (Nat.le_refl _) _⟩

theorem nought_any (s : Bool) (w : World) : Calls Try.prog 71 #[frm, .bool s] w (Ret w (val 3 s 0 (-149))) := by
  unfold frm
  go_enter Try.func71, Try.ntmps71
  go_wp2
  exact bodyPost_ret (v := val 3 s 0 (-149)) (by simp [results, Try.results71, go_sem, val]) rfl ⟨rfl, ((Below.refl _ _).alloc (Nat.le_refl _) _).alloc (by simp) _⟩

theorem most_any (w : World) : Calls Try.prog 86 #[frm] w (Ret w (.int .i64 255)) := by
  unfold frm
  go_enter Try.func86, Try.ntmps86
  go_wp2
  go_ret
  exact ⟨rfl, (Below.refl _ _).alloc (Nat.le_refl _) _⟩

theorem held_any (s : Bool) (m : Nat) (p : Int) (w : World) : Calls Try.prog 79 #[frm, .bool s, .int .u64 m, .int .i64 p] w (Ret w (encD (heldD single s m p))) := by
  have hh : high single = 104 := by decide
  by_cases hp : 104 < p
  · have HD := Lib.hid (show encD (heldD single s m p) = val 2 s 0 0 from by unfold heldD; rw [hh, if_pos hp]; rfl)
    clear hh
    unfold frm
    go_enter Try.func79, Try.ntmps79
    go_wp2_with fail
    refine (endless_any _ _).mono ?_
    rintro e w1 ⟨rfl, hb1⟩
    obtain ⟨hc, hf⟩ := bel_cells hb1
    unfold val
    go_wp2
    exact bodyPost_ret (v := val 2 s 0 0) (by simp [results, Try.results79, go_sem, hc, val]) rfl ⟨by rw [HD.out], bel_set4 (bel_two _ _ _ hb1) (by simp) _ _ _ _⟩
  · have HD := Lib.hid (show encD (heldD single s m p) = val 3 s m p from by unfold heldD; rw [hh, if_neg hp]; rfl)
    clear hh
    unfold frm
    go_enter Try.func79, Try.ntmps79
    go_wp2
    exact bodyPost_ret (v := val 3 s m p) (by simp [results, Try.results79, go_sem, val]) rfl ⟨by rw [HD.out], ((Below.refl _ _).alloc (Nat.le_refl _) _).alloc (by simp) _⟩

theorem isNought_any (d : Datum) (w : World) : Calls Try.prog 52 #[encD d] w (Ret w (.bool d.isZero)) := by
  cases d with
  | number s m p =>
    by_cases hm : m = 0
    · subst hm
      unfold encD val
      go_enter Try.func52, Try.ntmps52
      go_wp2
      go_ret
      exact ⟨rfl, (Below.refl _ _).alloc (Nat.le_refl _) _⟩
    · have hz : ((m : Int) == 0) = false := by simp; exact hm
      have HZ := Lib.hid (show (Datum.number s m p).isZero = false from by unfold Datum.isZero; cases m with | zero => exact absurd rfl hm | succ m => rfl)
      clear hm
      unfold encD val
      go_enter Try.func52, Try.ntmps52
      go_wp2
      go_ret
      exact ⟨by rw [HZ.out]; rfl, (Below.refl _ _).alloc (Nat.le_refl _) _⟩
  | infinity s =>
    unfold encD val
    go_enter Try.func52, Try.ntmps52
    go_wp2
    go_ret
    exact ⟨rfl, (Below.refl _ _).alloc (Nat.le_refl _) _⟩
  | nan s t =>
    unfold encD val
    go_enter Try.func52, Try.ntmps52
    go_wp2
    go_ret
    exact ⟨rfl, (Below.refl _ _).alloc (Nat.le_refl _) _⟩
end Go.Proofs.Ytdihbpfoalmlcaa
