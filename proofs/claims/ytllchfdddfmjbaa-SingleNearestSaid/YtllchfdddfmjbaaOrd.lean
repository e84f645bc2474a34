/- Plain law: how two stand, as the reference comes to it. -/
import Derived.Test.YtllchfdddfmjbaaSingle
namespace Go.Proofs.Ytllchfdddfmjbaa
open Ieee

/-- The number of a side. -/
def sideOf : Option Ordering → Nat
  | none => 1
  | some .lt => 2
  | some .eq => 3
  | some .gt => 4

def sgN : Datum → Int
  | .number s m _ => if m = 0 then 0 else if s then -1 else 1
  | .infinity s => if s then -2 else 2
  | .nan _ _ => 1

theorem sgN_bound (d : Datum) : -2 ≤ sgN d ∧ sgN d ≤ 2 := by
  cases d with
  | number s m p => simp only [sgN]; split
                    · omega
                    · split <;> omega
  | infinity s => simp only [sgN]; split <;> omega
  | nan _ _ => simp only [sgN]; omega

theorem num_order (s t : Bool) (m n X Y : Nat) (i j p : Int) (hp : p = min i j) (hX : m * 2 ^ (i - p).toNat = X) (hY : n * 2 ^ (j - p).toNat = Y) :
    (Datum.number s m i).order (.number t n j) = some (compare (if s then -(X : Int) else X) (if t then -(Y : Int) else Y)) := by
  simp only [Datum.order, ← hp, signed, Nat.shiftLeft_eq, hX, hY]

theorem cmp_lt {a b : Int} (h : a < b) : compare a b = .lt := Int.compare_eq_lt.2 h
theorem cmp_gt {a b : Int} (h : b < a) : compare a b = .gt := Int.compare_eq_gt.2 h
theorem cmp_eq {a b : Int} (h : a = b) : compare a b = .eq := by subst h; exact Int.compare_eq_eq.2 rfl

theorem zero_zero (d1 d2 : Datum) (h1 : d1.isZero = true) (h2 : d2.isZero = true) : d1.order d2 = some .eq := by
  cases d1 with
  | nan _ _ => simp [Datum.isZero] at h1
  | infinity _ => simp [Datum.isZero] at h1
  | number s m p =>
    cases d2 with
    | nan _ _ => simp [Datum.isZero] at h2
    | infinity _ => simp [Datum.isZero] at h2
    | number t n q =>
      have hm : m = 0 := by cases m with | zero => rfl | succ m => simp [Datum.isZero] at h1
      have hn : n = 0 := by cases n with | zero => rfl | succ n => simp [Datum.isZero] at h2
      subst hm hn
      rw [num_order s t 0 0 0 0 p q (min p q) rfl (by simp) (by simp)]
      exact congrArg some (cmp_eq (by cases s <;> cases t <;> rfl))

theorem pow_pos_mul {m : Nat} (k : Nat) (h : m ≠ 0) : 0 < m * 2 ^ k := Nat.mul_pos (by omega) (Nat.two_pow_pos k)

theorem sg_lt (d1 d2 : Datum) (n1 : d1.isNaN = false) (n2 : d2.isNaN = false) (h : sgN d1 < sgN d2) : d1.order d2 = some .lt := by
  cases d1 with
  | nan _ _ => simp [Datum.isNaN] at n1
  | infinity s =>
    cases d2 with
    | nan _ _ => simp [Datum.isNaN] at n2
    | infinity t => cases s <;> cases t <;> simp_all [sgN] <;> rfl
    | number t n q =>
      have hb : -1 ≤ sgN (.number t n q) ∧ sgN (.number t n q) ≤ 1 := by simp only [sgN]; split
                                                                         · omega
                                                                         · split <;> omega
      cases s
      · simp only [sgN] at h hb; simp at h; split at h <;> (try split at h) <;> omega
      · rfl
  | number s m p =>
    cases d2 with
    | nan _ _ => simp [Datum.isNaN] at n2
    | infinity t =>
      cases t
      · rfl
      · simp only [sgN] at h; simp at h; split at h <;> (try split at h) <;> omega
    | number t n q =>
      rw [num_order s t m n _ _ p q (min p q) rfl rfl rfl]
      refine congrArg some (cmp_lt ?_)
      by_cases hm : m = 0
      · subst hm
        by_cases hn : n = 0
        · subst hn; simp [sgN] at h
        · have hp := pow_pos_mul (q - min p q).toNat hn
          generalize n * 2 ^ (q - min p q).toNat = Y at *
          cases t
          · cases s <;> simp <;> omega
          · simp [sgN, hn] at h
      · have hp := pow_pos_mul (p - min p q).toNat hm
        generalize m * 2 ^ (p - min p q).toNat = X at *
        by_cases hn : n = 0
        · subst hn
          cases s
          · simp [sgN, hm] at h
          · cases t <;> simp <;> omega
        · have hq := pow_pos_mul (q - min p q).toNat hn
          generalize n * 2 ^ (q - min p q).toNat = Y at *
          cases s <;> cases t <;> simp [sgN, hm, hn] at h ⊢
          omega

theorem order_swap (d1 d2 : Datum) (h : d1.order d2 = some .lt) : d2.order d1 = some .gt := by
  cases d1 with
  | nan _ _ => simp [Datum.order] at h
  | infinity s =>
    cases d2 with
    | nan _ _ => simp [Datum.order] at h
    | infinity t => cases s <;> cases t <;> simp_all [Datum.order] <;> revert h <;> decide
    | number t n q => cases s <;> simp_all [Datum.order]
  | number s m p =>
    cases d2 with
    | nan _ _ => simp [Datum.order] at h
    | infinity t => cases t <;> simp_all [Datum.order]
    | number t n q =>
      rw [num_order s t m n _ _ p q (min p q) rfl rfl rfl] at h
      rw [num_order t s n m _ _ q p (min p q) (by omega) rfl rfl]
      injection h with h
      exact congrArg some (cmp_gt (Int.compare_eq_lt.1 h))

theorem sg_gt (d1 d2 : Datum) (n1 : d1.isNaN = false) (n2 : d2.isNaN = false) (h : sgN d2 < sgN d1) : d1.order d2 = some .gt :=
  order_swap d2 d1 (sg_lt d2 d1 n2 n1 h)

theorem signed_true (X : Nat) : signed true X 0 = -(X : Int) := by unfold signed; simp
theorem signed_false (X : Nat) : signed false X 0 = (X : Int) := by unfold signed; simp
end Go.Proofs.Ytllchfdddfmjbaa
