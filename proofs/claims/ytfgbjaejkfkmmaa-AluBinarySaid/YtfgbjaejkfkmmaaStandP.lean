/- Plain law: how two stand, as the reference comes to it. -/
import Derived.Test.YtfgbjaejkfkmmaaProduct2
import Derived.Test.YtfgbjaejkfkmmaaOrd
namespace Go.Proofs.Ytfgbjaejkfkmmaa
open Ieee

/-- The sizes against one another, of two of one sign. -/
def bulkI : Datum → Datum → Int
  | .number _ m i, .number _ n j => cmpI (m * 2 ^ (i - min i j).toNat) (n * 2 ^ (j - min i j).toNat)
  | _, _ => 0

theorem cmpI_cases (a b : Nat) : (cmpI a b = -1 ∧ a < b) ∨ (cmpI a b = 0 ∧ a = b) ∨ (cmpI a b = 1 ∧ b < a) := by
  unfold cmpI
  rcases Nat.lt_trichotomy a b with h | h | h
  · exact .inl ⟨if_pos h, h⟩
  · exact .inr (.inl ⟨by rw [if_neg (by omega), if_pos h], h⟩)
  · exact .inr (.inr ⟨by rw [if_neg (by omega), if_neg (by omega)], h⟩)

theorem same_num (s : Bool) (X Y : Nat) : compare (if s then -(X : Int) else X) (if s then -(Y : Int) else Y) =
    (if (if s then -cmpI X Y else cmpI X Y) < 0 then .lt else if 0 < (if s then -cmpI X Y else cmpI X Y) then .gt else .eq) := by
  rcases cmpI_cases X Y with ⟨hc, hl⟩ | ⟨hc, hl⟩ | ⟨hc, hl⟩
  · rw [hc]
    cases s
    · exact cmp_lt (by simp; omega)
    · exact cmp_gt (by simp; omega)
  · rw [hc]
    subst hl
    cases s <;> exact cmp_eq rfl
  · rw [hc]
    cases s
    · exact cmp_gt (by simp; omega)
    · exact cmp_lt (by simp; omega)

theorem sg_same (d1 d2 : Datum) (n1 : d1.isNaN = false) (n2 : d2.isNaN = false) (hz : ¬ (d1.isZero = true ∧ d2.isZero = true)) (h : sgN d1 = sgN d2) :
    d1.order d2 = some (if (if d1.neg then -bulkI d1 d2 else bulkI d1 d2) < 0 then .lt else if 0 < (if d1.neg then -bulkI d1 d2 else bulkI d1 d2) then .gt else .eq) := by
  cases d1 with
  | nan _ _ => simp [Datum.isNaN] at n1
  | infinity s =>
    cases d2 with
    | nan _ _ => simp [Datum.isNaN] at n2
    | infinity t => cases s <;> cases t <;> simp [sgN] at h <;> rfl
    | number t n q =>
      simp only [sgN] at h
      split at h <;> split at h <;> (try split at h) <;> omega
  | number s m p =>
    cases d2 with
    | nan _ _ => simp [Datum.isNaN] at n2
    | infinity t =>
      simp only [sgN] at h
      split at h <;> (try split at h) <;> (try split at h) <;> omega
    | number t n q =>
      rw [num_order s t m n _ _ p q (min p q) rfl rfl rfl]
      have hst : s = t := by
        by_cases hm : m = 0
        · by_cases hn : n = 0
          · subst hm hn; exact absurd ⟨rfl, rfl⟩ hz
          · exfalso; subst hm; cases t <;> simp [sgN, hn] at h
        · by_cases hn : n = 0
          · exfalso; subst hn; cases s <;> simp [sgN, hm] at h
          · cases s <;> cases t <;> simp [sgN, hm, hn] at h ⊢
      subst hst
      simp only [bulkI, Datum.neg]
      exact congrArg some (same_num s _ _)
end Go.Proofs.Ytfgbjaejkfkmmaa
