/- Plain law: the sum of two finite numbers, as the reference comes to it. -/
import Derived.Test.YtfgbjaejkfkmmaaProduct2
import Derived.Test.YtfgbjaejkfkmmaaOrd
namespace Go.Proofs.Ytfgbjaejkfkmmaa
open Ieee

theorem sum_num (s t : Bool) (m n X Y : Nat) (i j p : Int) (hp : p = min i j) (hX : m * 2 ^ (i - p).toNat = X) (hY : n * 2 ^ (j - p).toNat = Y) :
    (Datum.number s m i).sum (.number t n j) = some (.number (if signed s X 0 + signed t Y 0 = 0 then s && t else signed s X 0 + signed t Y 0 < 0) (signed s X 0 + signed t Y 0).natAbs p) := by
  have h1 : ∀ (b : Bool) (a k : Nat), signed b a k = signed b (a * 2 ^ k) 0 := fun b a k => by
    unfold signed; simp [Nat.shiftLeft_eq]
  simp only [Datum.sum]
  rw [← hp, h1 s m, h1 t n, hX, hY]


theorem sum_same (s : Bool) (m n X Y : Nat) (i j p : Int) (hp : p = min i j) (hX : m * 2 ^ (i - p).toNat = X) (hY : n * 2 ^ (j - p).toNat = Y) :
    resD ((Datum.number s m i).sum (.number s n j)) = single.read (single.nearest s (X + Y) p) := by
  rw [sum_num s s m n X Y i j p hp hX hY]
  unfold resD
  simp only [Format.write]
  cases s
  · rw [signed_false, signed_false, show ((X : Int) + (Y : Int)).natAbs = X + Y from by omega]
    by_cases h : (X : Int) + (Y : Int) = 0
    · simp [h]
    · rw [if_neg h, show decide ((X : Int) + (Y : Int) < 0) = false from by simp; omega]
  · rw [signed_true, signed_true, show (-(X : Int) + -(Y : Int)).natAbs = X + Y from by omega]
    by_cases h : -(X : Int) + -(Y : Int) = 0
    · simp [h]
    · rw [if_neg h, show decide (-(X : Int) + -(Y : Int) < 0) = true from by simp; omega]

theorem sum_even (s : Bool) (m n X Y : Nat) (i j p : Int) (hp : p = min i j) (hX : m * 2 ^ (i - p).toNat = X) (hY : n * 2 ^ (j - p).toNat = Y) (h : X = Y) :
    resD ((Datum.number s m i).sum (.number (!s) n j)) = .number false 0 (-149) := by
  rw [sum_num s (!s) m n X Y i j p hp hX hY]
  subst h
  unfold resD
  simp only [Format.write]
  cases s
  · simp only [Bool.not_false]
    rw [signed_false, signed_true, show ((X : Int) + -(X : Int)) = 0 from by omega]
    exact rnd_zero false p
  · simp only [Bool.not_true]
    rw [signed_false, signed_true, show (-(X : Int) + (X : Int)) = 0 from by omega]
    exact rnd_zero false p

theorem sum_below (s : Bool) (m n X Y : Nat) (i j p : Int) (hp : p = min i j) (hX : m * 2 ^ (i - p).toNat = X) (hY : n * 2 ^ (j - p).toNat = Y) (h : X < Y) :
    resD ((Datum.number s m i).sum (.number (!s) n j)) = single.read (single.nearest (!s) (Y - X) p) := by
  rw [sum_num s (!s) m n X Y i j p hp hX hY]
  unfold resD
  simp only [Format.write]
  cases s
  · simp only [Bool.not_false]
    rw [signed_false, signed_true, show ((X : Int) + -(Y : Int)).natAbs = Y - X from by omega, if_neg (by omega), show decide ((X : Int) + -(Y : Int) < 0) = true from by simp; omega]
  · simp only [Bool.not_true]
    rw [signed_false, signed_true, show (-(X : Int) + (Y : Int)).natAbs = Y - X from by omega, if_neg (by omega), show decide (-(X : Int) + (Y : Int) < 0) = false from by simp; omega]

theorem sum_above (s : Bool) (m n X Y : Nat) (i j p : Int) (hp : p = min i j) (hX : m * 2 ^ (i - p).toNat = X) (hY : n * 2 ^ (j - p).toNat = Y) (h : Y < X) :
    resD ((Datum.number s m i).sum (.number (!s) n j)) = single.read (single.nearest s (X - Y) p) := by
  rw [sum_num s (!s) m n X Y i j p hp hX hY]
  unfold resD
  simp only [Format.write]
  cases s
  · simp only [Bool.not_false]
    rw [signed_false, signed_true, show ((X : Int) + -(Y : Int)).natAbs = X - Y from by omega, if_neg (by omega), show decide ((X : Int) + -(Y : Int) < 0) = false from by simp; omega]
  · simp only [Bool.not_true]
    rw [signed_false, signed_true, show (-(X : Int) + (Y : Int)).natAbs = X - Y from by omega, if_neg (by omega), show decide (-(X : Int) + (Y : Int) < 0) = true from by simp; omega]
end Go.Proofs.Ytfgbjaejkfkmmaa
