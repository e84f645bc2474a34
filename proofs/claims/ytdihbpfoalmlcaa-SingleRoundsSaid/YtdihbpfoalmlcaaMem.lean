/- Numbers in memory: a slice of words of 32 bits that reads as a whole number. -/
import Derived.Test.YtdihbpfoalmlcaaDig
import Derived.Test.YtdihbpfoalmlcaaFloat
import Derived.Lib.Hide
import Derived.Outline
import Derived.Below
import Derived.Laws.OwnMore
import Derived.Deep.AppendLies
import Derived.Deep.LoopGhost
import Derived.Laws.BitsAllLaws
namespace Go.Proofs.Ytdihbpfoalmlcaa
open Go.RowKit

/-- Digit d as a value. -/
def dv (d : Nat) : Value := .int .u32 (d : Int)

/-- The digits xs lie from A on, below block B. -/
def Dg (w : World) (B : Nat) (A : Option Addr) (xs : List Nat) : Prop :=
  0 < xs.length → ∃ b, A = some ⟨b, 0, none⟩ ∧ b < B ∧ ∀ j, j < xs.length → w.cell? ⟨b, j, none⟩ = some (.int .u32 (dg xs j : Nat))

theorem Dg.nil_ (w : World) (B : Nat) (A : Option Addr) : Dg w B A [] := fun h => absurd h (by simp)
theorem Dg.below {w w' : World} {B B' : Nat} {A : Option Addr} {xs : List Nat} (h : Dg w B A xs) (hb : Below B w w') (hB : B ≤ B') : Dg w' B' A xs := by
  intro h0
  obtain ⟨b, rfl, hlt, hc⟩ := h h0
  exact ⟨b, rfl, by omega, fun j hj => (hb.cell (p := ⟨b, j, none⟩) hlt).trans (hc j hj)⟩
theorem Dg.take {w : World} {B : Nat} {A : Option Addr} {xs : List Nat} (h : Dg w B A xs) (k : Nat) : Dg w B A (xs.take k) := by
  intro h0
  rw [List.length_take] at h0
  obtain ⟨b, rfl, hlt, hc⟩ := h (by omega)
  refine ⟨b, rfl, hlt, fun j hj => ?_⟩
  rw [List.length_take] at hj
  rw [hc j (by omega)]
  unfold dg
  rw [List.getElem?_take, if_pos (by omega)]
theorem Dg.of_own {w : World} {base n : Nat} {e : TypeId} {A : Option Addr} {c : Nat} {xs : List Nat} (h : w.ownsRow base e 1 (.slice A n c) n (xs.map dv)) :
    n = xs.length ∧ Dg w w.heap.size A xs := by
  have hl : n = xs.length := by have := h.1; simp at this; omega
  subst hl
  refine ⟨rfl, fun h0 => ?_⟩
  obtain ⟨g, cap, hv, _, hlt⟩ := h.form h0
  have hA : A = some ⟨g, 0, none⟩ := by injection hv
  subst hA
  refine ⟨g, rfl, hlt, fun j hj => ?_⟩
  have := h.cells (g := g) rfl j (dv (dg xs j)) (by rw [List.getElem?_map, dg_in hj, List.getElem?_eq_getElem hj]; rfl)
  by_cases hj0 : j = 0
  · subst hj0; simpa [Addr.add, dv] using this
  · simpa [Addr.add, dv, hj0] using this

/-- The slice value v reads as the whole number n. -/
def IsN (w : World) (v : Value) (n : Nat) : Prop :=
  ∃ A cap xs, v = .slice A xs.length cap ∧ xs.length ≤ cap ∧ cap ≤ 9223372036854775807 ∧ Dg w w.heap.size A xs ∧ Small xs ∧ Norm xs ∧ dval xs = n

theorem IsN.below {w w' : World} {v : Value} {n : Nat} (h : IsN w v n) (hb : Below w.heap.size w w') : IsN w' v n := by
  obtain ⟨A, cap, xs, rfl, h1, h2, h3, h4, h5, h6⟩ := h
  exact ⟨A, cap, xs, rfl, h1, h2, h3.below hb hb.size, h4, h5, h6⟩
theorem IsN.nil_ (w : World) : IsN w (.slice none 0 0) 0 := ⟨none, 0, [], rfl, by simp, by omega, Dg.nil_ _ _ _, small_nil, norm_nil, rfl⟩

/-- A number is handed back; nothing old is touched. -/
def RetN (w : World) (n : Nat) (e : Ending) (w' : World) : Prop := ∃ v, e = .returned v ∧ IsN w' v n ∧ Below w.heap.size w w'

theorem len_lt {xs : List Nat} (hn : Norm xs) : 32 * xs.length < bsize (dval xs) + 32 := by
  by_cases h0 : xs = []
  · subst h0; simp
  · have h1 := norm_low xs hn h0
    have h2 := lt_bsize (dval xs)
    rw [Bwpow_two] at h1
    have h3 : 2 ^ (32 * (xs.length - 1)) < 2 ^ bsize (dval xs) := by omega
    have h4 := (Nat.pow_lt_pow_iff_right (by omega : 1 < 2)).1 h3
    omega

theorem small_dg {xs : List Nat} (h : Small xs) (k : Nat) : dg xs k ≤ 4294967295 := by
  have := dg_lt h k
  unfold Bw at this
  omega
end Go.Proofs.Ytdihbpfoalmlcaa
