/- Contracts of the reference's Unary and Holds of layer 6 (printed by a program of ours). -/
import Derived.Test.YtfgbjaejkfkmmaaAluU
import Derived.Test.YtfgbjaejkfkmmaaAluH
import Derived.Test.YtfgbjaejkfkmmaaAluP
import Derived.Test.YtfgbjaejkfkmmaaTowR2
import Derived.Test.YtfgbjaejkfkmmaaStand2
import Derived.Test.YtfgbjaejkfkmmaaRefTurn
namespace Go.Proofs.Ytfgbjaejkfkmmaa
open Go.RowKit Ieee
set_option linter.unusedVariables false

theorem rsigned_any (a : Nat) (ha : a ≤ 4294967295) (w : World) : Calls Try.prog 39 #[.int .u32 (a : Int)] w fun e w' => e = .returned (.int .i64 (wrap32 (a : Int))) ∧ w = w' := by
  have e1 : IntKind.i64.wrap (a : Int) = (a : Int) := IntWalk.i64_in _ (by omega)
  have e2 : IntKind.i64.wrap ((a : Int) - 4294967296) = (a : Int) - 4294967296 := IntWalk.i64_in _ (by omega)
  by_cases h : a < 2147483648
  · have HR := Lib.hid (wrap_low a h)
    have ht : decide ((2147483648 : Int) ≤ (a : Int)) = false := decide_eq_false (by omega)
    clear h
    go_enter Try.func39, Try.ntmps39
    go_wp2
    go_ret
    exact ⟨ret_int HR.out.symm, rfl⟩
  · have HR := Lib.hid (wrap_high a (by omega) ha)
    have ht : decide ((2147483648 : Int) ≤ (a : Int)) = true := decide_eq_true (by omega)
    clear h
    go_enter Try.func39, Try.ntmps39
    go_wp2
    go_ret
    exact ⟨ret_int HR.out.symm, rfl⟩

theorem wrapped_is (x : Int) (r : Nat) (h0 : -4611686018427387904 ≤ x) (h1 : x ≤ 4611686018427387904) (h : x % 4294967296 = (r : Int)) (w : World) :
    Calls Try.prog 35 #[.int .i64 x] w fun e w' => e = .returned (.int .u32 (r : Nat)) ∧ w = w' := by
  have hm : x.tmod 4294967296 = x % 4294967296 ∨ (x.tmod 4294967296 = x % 4294967296 - 4294967296 ∧ x.tmod 4294967296 < 0) := by
    have hk := Int.tmod_eq_emod (a := x) (b := 4294967296)
    rw [hk]
    split
    · left; omega
    · right
      rename_i hc
      have hd : ¬ x % 4294967296 = 0 := fun h => hc (.inr (Int.dvd_of_emod_eq_zero h))
      have := Int.emod_lt_of_pos x (show (0 : Int) < 4294967296 by decide)
      simp
      omega
  have hr : r ≤ 4294967295 := by
    have := Int.emod_lt_of_pos x (show (0 : Int) < 4294967296 by decide)
    rw [h] at this
    exact Nat.le_of_lt_succ (Int.ofNat_lt.1 this)
  rw [h] at hm
  obtain ⟨y, hy⟩ : ∃ y, x.tmod 4294967296 = y := ⟨_, rfl⟩
  rw [hy] at hm
  rcases hm with rfl | ⟨hm, hn⟩
  · have ht : decide ((r : Int) < 0) = false := decide_eq_false (by omega)
    have e1 : IntKind.u32.wrap (r : Int) = (r : Int) := by rw [IntKind.wrap_u32]; omega
    clear h h0 h1
    go_enter Try.func35, Try.ntmps35
    go_wp2
    go_ret
    exact ⟨ret_int (by omega), rfl⟩
  · have ht : decide (y < 0) = true := decide_eq_true (by omega)
    have e0 : IntKind.i64.wrap (y + 4294967296) = (r : Int) := by rw [IntWalk.i64_in _ (by omega)]; omega
    have e1 : IntKind.u32.wrap (r : Int) = (r : Int) := by rw [IntKind.wrap_u32]; omega
    have b1 : -4294967296 ≤ y := by omega
    have HR := Lib.hid (show (y + 4294967296) % 4294967296 = (r : Int) by omega)
    clear h h0 h1 hm
    go_enter Try.func35, Try.ntmps35
    go_wp2
    go_ret
    exact ⟨by first | exact ret_int HR.out | exact ret_int (by have := HR.out; omega) | rfl, rfl⟩

theorem lowest_8 (a : Nat) (v : Int) (ha : a ≤ 4294967295) (hv : v = if a % 256 < 128 then ((a % 256 : Nat) : Int) else ((a % 256 : Nat) : Int) - 256) (w : World) :
    Calls Try.prog 36 #[.int .u32 (a : Int), .int .i64 8] w fun e w' => e = .returned (.int .i64 v) ∧ w = w' := by
  have e1 : IntKind.i64.wrap (a : Int) = (a : Int) := IntWalk.i64_in _ (by omega)
  obtain ⟨r, hr, hr2⟩ : ∃ r : Nat, (a : Int) % 256 = (r : Int) ∧ a % 256 = r := ⟨a % 256, by omega, rfl⟩
  have hr3 : (a : Int).tmod 256 = (r : Int) := by rw [← hr2]; rfl
  have hrM : r < 256 := by rw [← hr2]; exact Nat.mod_lt _ (by decide)
  rw [hr2] at hv
  by_cases h : r < 128
  · rw [if_pos h] at hv
    subst hv
    have ht : decide ((128 : Int) ≤ (r : Int)) = false := decide_eq_false (by omega)
    clear hr2 h
    go_enter Try.func36, Try.ntmps36
    go_wp2
    go_ret
    exact ⟨rfl, rfl⟩
  · rw [if_neg h] at hv
    subst hv
    have ht : decide ((128 : Int) ≤ (r : Int)) = true := decide_eq_true (by omega)
    clear hr2 h
    go_enter Try.func36, Try.ntmps36
    go_wp2
    go_ret
    exact ⟨rfl, rfl⟩

theorem lowest_16 (a : Nat) (v : Int) (ha : a ≤ 4294967295) (hv : v = if a % 65536 < 32768 then ((a % 65536 : Nat) : Int) else ((a % 65536 : Nat) : Int) - 65536) (w : World) :
    Calls Try.prog 36 #[.int .u32 (a : Int), .int .i64 16] w fun e w' => e = .returned (.int .i64 v) ∧ w = w' := by
  have e1 : IntKind.i64.wrap (a : Int) = (a : Int) := IntWalk.i64_in _ (by omega)
  obtain ⟨r, hr, hr2⟩ : ∃ r : Nat, (a : Int) % 65536 = (r : Int) ∧ a % 65536 = r := ⟨a % 65536, by omega, rfl⟩
  have hr3 : (a : Int).tmod 65536 = (r : Int) := by rw [← hr2]; rfl
  have hrM : r < 65536 := by rw [← hr2]; exact Nat.mod_lt _ (by decide)
  rw [hr2] at hv
  by_cases h : r < 32768
  · rw [if_pos h] at hv
    subst hv
    have ht : decide ((32768 : Int) ≤ (r : Int)) = false := decide_eq_false (by omega)
    clear hr2 h
    go_enter Try.func36, Try.ntmps36
    go_wp2
    go_ret
    exact ⟨rfl, rfl⟩
  · rw [if_neg h] at hv
    subst hv
    have ht : decide ((32768 : Int) ≤ (r : Int)) = true := decide_eq_true (by omega)
    clear hr2 h
    go_enter Try.func36, Try.ntmps36
    go_wp2
    go_ret
    exact ⟨rfl, rfl⟩

theorem run_36 (a r : Nat) (ha : a ≤ 4294967295) (h : sex8 a = r) (w : World) : Calls Try.prog 21 #[.int .u8 36, .int .u32 (a : Int)] w (Ret w (.tuple #[.int .u32 (r : Nat), .int .i64 0])) := by
  obtain ⟨v, hv⟩ : ∃ v : Int, v = if a % 256 < 128 then ((a % 256 : Nat) : Int) else ((a % 256 : Nat) : Int) - 256 := ⟨_, rfl⟩
  have c1 := Lib.hid (fun W => lowest_8 a v ha hv W)
  have c2 := Lib.hid (fun W => wrapped_is v r (by split at hv <;> omega) (by split at hv <;> omega) (by rw [← h]; unfold sex8; split at hv <;> (split <;> omega)) W)
  clear hv h
  go_enter Try.func21, Try.ntmps21
  go_wp2_with fail
  refine (c1.out _).mono ?_
  rintro e w' ⟨rfl, rfl⟩
  go_wp2_with fail
  refine (c2.out _).mono ?_
  rintro e w' ⟨rfl, rfl⟩
  go_wp2
  go_ret2
  exact ⟨rfl, Below.refl _ _⟩

theorem run_37 (a r : Nat) (ha : a ≤ 4294967295) (h : sex16 a = r) (w : World) : Calls Try.prog 21 #[.int .u8 37, .int .u32 (a : Int)] w (Ret w (.tuple #[.int .u32 (r : Nat), .int .i64 0])) := by
  obtain ⟨v, hv⟩ : ∃ v : Int, v = if a % 65536 < 32768 then ((a % 65536 : Nat) : Int) else ((a % 65536 : Nat) : Int) - 65536 := ⟨_, rfl⟩
  have c1 := Lib.hid (fun W => lowest_16 a v ha hv W)
  have c2 := Lib.hid (fun W => wrapped_is v r (by split at hv <;> omega) (by split at hv <;> omega) (by rw [← h]; unfold sex16; split at hv <;> (split <;> omega)) W)
  clear hv h
  go_enter Try.func21, Try.ntmps21
  go_wp2_with fail
  refine (c1.out _).mono ?_
  rintro e w' ⟨rfl, rfl⟩
  go_wp2_with fail
  refine (c2.out _).mono ?_
  rintro e w' ⟨rfl, rfl⟩
  go_wp2
  go_ret2
  exact ⟨rfl, Below.refl _ _⟩

theorem run_38 (a r : Nat) (ha : a ≤ 4294967295) (h : (4294967296 - a) % 4294967296 = r) (w : World) : Calls Try.prog 21 #[.int .u8 38, .int .u32 (a : Int)] w (Ret w (.tuple #[.int .u32 (r : Nat), .int .i64 0])) := by
  have c2 := Lib.hid (fun W => wrapped_is (-(a : Int)) r (by omega) (by omega) (by omega) W)
  have e1 : IntKind.i64.wrap (a : Int) = (a : Int) := IntWalk.i64_in _ (by omega)
  have e2 : IntKind.i64.wrap (-(a : Int)) = -(a : Int) := IntWalk.i64_in _ (by omega)
  have e3 : IntKind.i64.wrap (-(a : Int) - 1) = -(a : Int) - 1 := IntWalk.i64_in _ (by omega)
  clear h
  go_enter Try.func21, Try.ntmps21
  go_wp2_with fail
  refine (c2.out _).mono ?_
  rintro e w' ⟨rfl, rfl⟩
  go_wp2
  go_ret2
  exact ⟨rfl, Below.refl _ _⟩

theorem run_49 (a r : Nat) (ha : a ≤ 4294967295) (h : 4294967295 - a = r) (w : World) : Calls Try.prog 21 #[.int .u8 49, .int .u32 (a : Int)] w (Ret w (.tuple #[.int .u32 (r : Nat), .int .i64 0])) := by
  have c2 := Lib.hid (fun W => wrapped_is (-(a : Int) - 1) r (by omega) (by omega) (by omega) W)
  have e1 : IntKind.i64.wrap (a : Int) = (a : Int) := IntWalk.i64_in _ (by omega)
  have e2 : IntKind.i64.wrap (-(a : Int)) = -(a : Int) := IntWalk.i64_in _ (by omega)
  have e3 : IntKind.i64.wrap (-(a : Int) - 1) = -(a : Int) - 1 := IntWalk.i64_in _ (by omega)
  clear h
  go_enter Try.func21, Try.ntmps21
  go_wp2_with fail
  refine (c2.out _).mono ?_
  rintro e w' ⟨rfl, rfl⟩
  go_wp2
  go_ret2
  exact ⟨rfl, Below.refl _ _⟩

theorem run_53 (a r : Nat) (ha : a ≤ 4294967295) (h : turnW a = r) (w : World) : Calls Try.prog 21 #[.int .u8 53, .int .u32 (a : Int)] w (Ret w (.tuple #[.int .u32 (r : Nat), .int .i64 0])) := by
  subst h
  have c1 := Lib.hid (fun W => RefTurned_any a ha W)
  clear ha
  go_enter Try.func21, Try.ntmps21
  go_wp2_with fail
  refine (c1.out _).mono ?_
  rintro e w' ⟨rfl, hb⟩
  go_wp2
  go_ret2
  exact ⟨rfl, hb⟩
theorem run_58 (a r : Nat) (ha : a ≤ 4294967295) (h : ofW (wrap32 (a : Int)) = r) (w : World) : Calls Try.prog 21 #[.int .u8 58, .int .u32 (a : Int)] w (Ret w (.tuple #[.int .u32 (r : Nat), .int .i64 0])) := by
  subst h
  have c1 := Lib.hid (fun W => rsigned_any a ha W)
  have hin := wrap_in (a : Int)
  obtain ⟨x, hx⟩ : ∃ x, wrap32 (a : Int) = x := ⟨_, rfl⟩
  rw [hx] at hin c1 ⊢
  have c2 := Lib.hid (fun W => RefOf_any x hin.1 hin.2 W)
  have e1 : IntKind.i32.wrap x = x := by rw [IntKind.wrap_i32]; omega
  have b1 : -2147483648 ≤ x := hin.1
  have b2 : x ≤ 2147483647 := hin.2
  clear ha hx hin
  go_enter Try.func21, Try.ntmps21
  go_wp2_with fail
  refine (c1.out _).mono ?_
  rintro e w' ⟨rfl, rfl⟩
  go_wp2_with fail
  refine (c2.out _).mono ?_
  rintro e w' ⟨rfl, hb⟩
  go_wp2
  go_ret2
  exact ⟨rfl, hb⟩
theorem tow_in_range (d : Datum) : -2147483648 ≤ towD d ∧ towD d ≤ 2147483647 := by
  cases d with
  | nan s t => simp only [towD]; omega
  | infinity s => simp only [towD]; split <;> omega
  | number s m p => simp only [towD]; unfold clampI; split <;> (try split) <;> omega
theorem run_59 (a r : Nat) (ha : a ≤ 4294967295) (h : towD (single.read a) % 4294967296 = (r : Int)) (w : World) : Calls Try.prog 21 #[.int .u8 59, .int .u32 (a : Int)] w (Ret w (.tuple #[.int .u32 (r : Nat), .int .i64 0])) := by
  have c1 := Lib.hid (fun W => RefToward_any (a : Int) (by omega) (by omega) W)
  simp only [Int.toNat_natCast] at c1
  have hin := tow_in_range (single.read a)
  obtain ⟨x, hx⟩ : ∃ x, towD (single.read a) = x := ⟨_, rfl⟩
  rw [hx] at hin c1 h
  have c2 := Lib.hid (fun W => wrapped_is x r (by omega) (by omega) h W)
  have e1 : IntKind.i64.wrap x = x := IntWalk.i64_in _ (by omega)
  have b1 : -2147483648 ≤ x := hin.1
  have b2 : x ≤ 2147483647 := hin.2
  clear ha hx hin h
  go_enter Try.func21, Try.ntmps21
  go_wp2_with fail
  refine (c1.out _).mono ?_
  rintro e w' ⟨rfl, hb⟩
  go_wp2_with fail
  refine (c2.out _).mono ?_
  rintro e w' ⟨rfl, rfl⟩
  go_wp2
  go_ret2
  exact ⟨rfl, hb⟩

theorem run_other (op : Int) (a : Int) (h36 : ((op : Int) == 36) = false) (h37 : ((op : Int) == 37) = false) (h38 : ((op : Int) == 38) = false) (h49 : ((op : Int) == 49) = false) (h53 : ((op : Int) == 53) = false) (h58 : ((op : Int) == 58) = false) (h59 : ((op : Int) == 59) = false) (w : World) :
    Calls Try.prog 21 #[.int .u8 op, .int .u32 a] w (Ret w (.tuple #[.int .u32 0, .int .i64 61])) := by
  go_enter Try.func21, Try.ntmps21
  go_wp2
  go_ret2
  exact ⟨rfl, Below.refl _ _⟩

theorem rhol_13 (a b : Nat) (ha : a ≤ 4294967295) (hb : b ≤ 4294967295) (t : Bool) (h : decide (a = b) = t) (w : World) :
    Calls Try.prog 22 #[.int .u8 13, .int .u32 (a : Int), .int .u32 (b : Int)] w (Ret w (.tuple #[.bool t, .int .i64 0])) := by
  have HR := Lib.hid h
  have c1 := Lib.hid (fun W => rsigned_any a ha W)
  have c2 := Lib.hid (fun W => rsigned_any b hb W)
  clear h
  go_enter Try.func22, Try.ntmps22
  go_wp2_with fail
  refine (c1.out _).mono ?_
  rintro e w' ⟨rfl, rfl⟩
  go_wp2_with fail
  refine (c2.out _).mono ?_
  rintro e w' ⟨rfl, rfl⟩
  go_wp2
  go_ret2
  exact ⟨ret_bool (by first | (rw [← HR.out]; done) | (rw [← HR.out, Bool.eq_iff_iff]; simp; done) | (rw [← HR.out, Bool.eq_iff_iff]; simp; omega)), Below.refl _ _⟩

theorem rhol_14 (a b : Nat) (ha : a ≤ 4294967295) (hb : b ≤ 4294967295) (t : Bool) (h : decide (¬ a = b) = t) (w : World) :
    Calls Try.prog 22 #[.int .u8 14, .int .u32 (a : Int), .int .u32 (b : Int)] w (Ret w (.tuple #[.bool t, .int .i64 0])) := by
  have HR := Lib.hid h
  have c1 := Lib.hid (fun W => rsigned_any a ha W)
  have c2 := Lib.hid (fun W => rsigned_any b hb W)
  clear h
  go_enter Try.func22, Try.ntmps22
  go_wp2_with fail
  refine (c1.out _).mono ?_
  rintro e w' ⟨rfl, rfl⟩
  go_wp2_with fail
  refine (c2.out _).mono ?_
  rintro e w' ⟨rfl, rfl⟩
  go_wp2
  go_ret2
  exact ⟨ret_bool (by first | (rw [← HR.out]; done) | (rw [← HR.out, Bool.eq_iff_iff]; simp; done) | (rw [← HR.out, Bool.eq_iff_iff]; simp; omega)), Below.refl _ _⟩

theorem rhol_15 (a b : Nat) (ha : a ≤ 4294967295) (hb : b ≤ 4294967295) (t : Bool) (h : decide (wrap32 (a : Int) < wrap32 (b : Int)) = t) (w : World) :
    Calls Try.prog 22 #[.int .u8 15, .int .u32 (a : Int), .int .u32 (b : Int)] w (Ret w (.tuple #[.bool t, .int .i64 0])) := by
  have HR := Lib.hid h
  have c1 := Lib.hid (fun W => rsigned_any a ha W)
  have c2 := Lib.hid (fun W => rsigned_any b hb W)
  clear h
  go_enter Try.func22, Try.ntmps22
  go_wp2_with fail
  refine (c1.out _).mono ?_
  rintro e w' ⟨rfl, rfl⟩
  go_wp2_with fail
  refine (c2.out _).mono ?_
  rintro e w' ⟨rfl, rfl⟩
  go_wp2
  go_ret2
  exact ⟨ret_bool (by first | (rw [← HR.out]; done) | (rw [← HR.out, Bool.eq_iff_iff]; simp; done) | (rw [← HR.out, Bool.eq_iff_iff]; simp; omega)), Below.refl _ _⟩

theorem rhol_16 (a b : Nat) (ha : a ≤ 4294967295) (hb : b ≤ 4294967295) (t : Bool) (h : decide (wrap32 (a : Int) ≤ wrap32 (b : Int)) = t) (w : World) :
    Calls Try.prog 22 #[.int .u8 16, .int .u32 (a : Int), .int .u32 (b : Int)] w (Ret w (.tuple #[.bool t, .int .i64 0])) := by
  have HR := Lib.hid h
  have c1 := Lib.hid (fun W => rsigned_any a ha W)
  have c2 := Lib.hid (fun W => rsigned_any b hb W)
  clear h
  go_enter Try.func22, Try.ntmps22
  go_wp2_with fail
  refine (c1.out _).mono ?_
  rintro e w' ⟨rfl, rfl⟩
  go_wp2_with fail
  refine (c2.out _).mono ?_
  rintro e w' ⟨rfl, rfl⟩
  go_wp2
  go_ret2
  exact ⟨ret_bool (by first | (rw [← HR.out]; done) | (rw [← HR.out, Bool.eq_iff_iff]; simp; done) | (rw [← HR.out, Bool.eq_iff_iff]; simp; omega)), Below.refl _ _⟩

theorem rhol_17 (a b : Nat) (ha : a ≤ 4294967295) (hb : b ≤ 4294967295) (t : Bool) (h : decide (wrap32 (b : Int) < wrap32 (a : Int)) = t) (w : World) :
    Calls Try.prog 22 #[.int .u8 17, .int .u32 (a : Int), .int .u32 (b : Int)] w (Ret w (.tuple #[.bool t, .int .i64 0])) := by
  have HR := Lib.hid h
  have c1 := Lib.hid (fun W => rsigned_any a ha W)
  have c2 := Lib.hid (fun W => rsigned_any b hb W)
  clear h
  go_enter Try.func22, Try.ntmps22
  go_wp2_with fail
  refine (c1.out _).mono ?_
  rintro e w' ⟨rfl, rfl⟩
  go_wp2_with fail
  refine (c2.out _).mono ?_
  rintro e w' ⟨rfl, rfl⟩
  go_wp2
  go_ret2
  exact ⟨ret_bool (by first | (rw [← HR.out]; done) | (rw [← HR.out, Bool.eq_iff_iff]; simp; done) | (rw [← HR.out, Bool.eq_iff_iff]; simp; omega)), Below.refl _ _⟩

theorem rhol_18 (a b : Nat) (ha : a ≤ 4294967295) (hb : b ≤ 4294967295) (t : Bool) (h : decide (wrap32 (b : Int) ≤ wrap32 (a : Int)) = t) (w : World) :
    Calls Try.prog 22 #[.int .u8 18, .int .u32 (a : Int), .int .u32 (b : Int)] w (Ret w (.tuple #[.bool t, .int .i64 0])) := by
  have HR := Lib.hid h
  have c1 := Lib.hid (fun W => rsigned_any a ha W)
  have c2 := Lib.hid (fun W => rsigned_any b hb W)
  clear h
  go_enter Try.func22, Try.ntmps22
  go_wp2_with fail
  refine (c1.out _).mono ?_
  rintro e w' ⟨rfl, rfl⟩
  go_wp2_with fail
  refine (c2.out _).mono ?_
  rintro e w' ⟨rfl, rfl⟩
  go_wp2
  go_ret2
  exact ⟨ret_bool (by first | (rw [← HR.out]; done) | (rw [← HR.out, Bool.eq_iff_iff]; simp; done) | (rw [← HR.out, Bool.eq_iff_iff]; simp; omega)), Below.refl _ _⟩

theorem rhol_19 (a b : Nat) (ha : a ≤ 4294967295) (hb : b ≤ 4294967295) (t : Bool) (h : decide (a < b) = t) (w : World) :
    Calls Try.prog 22 #[.int .u8 19, .int .u32 (a : Int), .int .u32 (b : Int)] w (Ret w (.tuple #[.bool t, .int .i64 0])) := by
  have HR := Lib.hid h
  have c1 := Lib.hid (fun W => rsigned_any a ha W)
  have c2 := Lib.hid (fun W => rsigned_any b hb W)
  clear h
  go_enter Try.func22, Try.ntmps22
  go_wp2_with fail
  refine (c1.out _).mono ?_
  rintro e w' ⟨rfl, rfl⟩
  go_wp2_with fail
  refine (c2.out _).mono ?_
  rintro e w' ⟨rfl, rfl⟩
  go_wp2
  go_ret2
  exact ⟨ret_bool (by first | (rw [← HR.out]; done) | (rw [← HR.out, Bool.eq_iff_iff]; simp; done) | (rw [← HR.out, Bool.eq_iff_iff]; simp; omega)), Below.refl _ _⟩

theorem rhol_20 (a b : Nat) (ha : a ≤ 4294967295) (hb : b ≤ 4294967295) (t : Bool) (h : decide (a ≤ b) = t) (w : World) :
    Calls Try.prog 22 #[.int .u8 20, .int .u32 (a : Int), .int .u32 (b : Int)] w (Ret w (.tuple #[.bool t, .int .i64 0])) := by
  have HR := Lib.hid h
  have c1 := Lib.hid (fun W => rsigned_any a ha W)
  have c2 := Lib.hid (fun W => rsigned_any b hb W)
  clear h
  go_enter Try.func22, Try.ntmps22
  go_wp2_with fail
  refine (c1.out _).mono ?_
  rintro e w' ⟨rfl, rfl⟩
  go_wp2_with fail
  refine (c2.out _).mono ?_
  rintro e w' ⟨rfl, rfl⟩
  go_wp2
  go_ret2
  exact ⟨ret_bool (by first | (rw [← HR.out]; done) | (rw [← HR.out, Bool.eq_iff_iff]; simp; done) | (rw [← HR.out, Bool.eq_iff_iff]; simp; omega)), Below.refl _ _⟩

theorem rhol_21 (a b : Nat) (ha : a ≤ 4294967295) (hb : b ≤ 4294967295) (t : Bool) (h : decide (b < a) = t) (w : World) :
    Calls Try.prog 22 #[.int .u8 21, .int .u32 (a : Int), .int .u32 (b : Int)] w (Ret w (.tuple #[.bool t, .int .i64 0])) := by
  have HR := Lib.hid h
  have c1 := Lib.hid (fun W => rsigned_any a ha W)
  have c2 := Lib.hid (fun W => rsigned_any b hb W)
  clear h
  go_enter Try.func22, Try.ntmps22
  go_wp2_with fail
  refine (c1.out _).mono ?_
  rintro e w' ⟨rfl, rfl⟩
  go_wp2_with fail
  refine (c2.out _).mono ?_
  rintro e w' ⟨rfl, rfl⟩
  go_wp2
  go_ret2
  exact ⟨ret_bool (by first | (rw [← HR.out]; done) | (rw [← HR.out, Bool.eq_iff_iff]; simp; done) | (rw [← HR.out, Bool.eq_iff_iff]; simp; omega)), Below.refl _ _⟩

theorem rhol_22 (a b : Nat) (ha : a ≤ 4294967295) (hb : b ≤ 4294967295) (t : Bool) (h : decide (b ≤ a) = t) (w : World) :
    Calls Try.prog 22 #[.int .u8 22, .int .u32 (a : Int), .int .u32 (b : Int)] w (Ret w (.tuple #[.bool t, .int .i64 0])) := by
  have HR := Lib.hid h
  have c1 := Lib.hid (fun W => rsigned_any a ha W)
  have c2 := Lib.hid (fun W => rsigned_any b hb W)
  clear h
  go_enter Try.func22, Try.ntmps22
  go_wp2_with fail
  refine (c1.out _).mono ?_
  rintro e w' ⟨rfl, rfl⟩
  go_wp2_with fail
  refine (c2.out _).mono ?_
  rintro e w' ⟨rfl, rfl⟩
  go_wp2
  go_ret2
  exact ⟨ret_bool (by first | (rw [← HR.out]; done) | (rw [← HR.out, Bool.eq_iff_iff]; simp; done) | (rw [← HR.out, Bool.eq_iff_iff]; simp; omega)), Below.refl _ _⟩

theorem rfloat_23 (s : Nat) (hs : s = 1 ∨ s = 2 ∨ s = 3 ∨ s = 4) (w : World) :
    Calls Try.prog 41 #[.int .u8 23, .int .u8 (s : Int)] w fun e w' => e = .returned (.tuple #[.bool (fcmp 23 s), .int .i64 0]) ∧ w = w' := by
  rcases hs with rfl | rfl | rfl | rfl
  all_goals
    go_enter Try.func41, Try.ntmps41
    go_wp2
    go_ret2
    exact ⟨rfl, rfl⟩

theorem rhol_23 (a b : Nat) (ha : a ≤ 4294967295) (hb : b ≤ 4294967295) (t : Bool) (h : fcmp 23 (sideOf (single.order a b)) = t) (w : World) :
    Calls Try.prog 22 #[.int .u8 23, .int .u32 (a : Int), .int .u32 (b : Int)] w (Ret w (.tuple #[.bool t, .int .i64 0])) := by
  subst h
  have c1 := Lib.hid (fun W => rsigned_any a ha W)
  have c2 := Lib.hid (fun W => rsigned_any b hb W)
  have HC := Lib.hid (fun W => Stands_any (a : Int) (b : Int) (by omega) (by omega) (by omega) (by omega) W)
  simp only [Int.toNat_natCast] at HC
  have hs := side_in (single.order a b)
  generalize sideOf (single.order a b) = s at *
  have HF := Lib.hid (fun W => rfloat_23 s hs W)
  generalize fcmp 23 s = t at *
  clear hs ha hb
  go_enter Try.func22, Try.ntmps22
  go_wp2_with fail
  refine (c1.out _).mono ?_
  rintro e w' ⟨rfl, rfl⟩
  go_wp2_with fail
  refine (c2.out _).mono ?_
  rintro e w' ⟨rfl, rfl⟩
  go_wp2_with fail
  refine (HC.out _).mono ?_
  rintro e w' ⟨rfl, hB⟩
  go_wp2_with fail
  refine (HF.out _).mono ?_
  rintro e w' ⟨rfl, rfl⟩
  go_wp2
  go_ret2
  exact ⟨rfl, hB⟩

theorem rfloat_24 (s : Nat) (hs : s = 1 ∨ s = 2 ∨ s = 3 ∨ s = 4) (w : World) :
    Calls Try.prog 41 #[.int .u8 24, .int .u8 (s : Int)] w fun e w' => e = .returned (.tuple #[.bool (fcmp 24 s), .int .i64 0]) ∧ w = w' := by
  rcases hs with rfl | rfl | rfl | rfl
  all_goals
    go_enter Try.func41, Try.ntmps41
    go_wp2
    go_ret2
    exact ⟨rfl, rfl⟩

theorem rhol_24 (a b : Nat) (ha : a ≤ 4294967295) (hb : b ≤ 4294967295) (t : Bool) (h : fcmp 24 (sideOf (single.order a b)) = t) (w : World) :
    Calls Try.prog 22 #[.int .u8 24, .int .u32 (a : Int), .int .u32 (b : Int)] w (Ret w (.tuple #[.bool t, .int .i64 0])) := by
  subst h
  have c1 := Lib.hid (fun W => rsigned_any a ha W)
  have c2 := Lib.hid (fun W => rsigned_any b hb W)
  have HC := Lib.hid (fun W => Stands_any (a : Int) (b : Int) (by omega) (by omega) (by omega) (by omega) W)
  simp only [Int.toNat_natCast] at HC
  have hs := side_in (single.order a b)
  generalize sideOf (single.order a b) = s at *
  have HF := Lib.hid (fun W => rfloat_24 s hs W)
  generalize fcmp 24 s = t at *
  clear hs ha hb
  go_enter Try.func22, Try.ntmps22
  go_wp2_with fail
  refine (c1.out _).mono ?_
  rintro e w' ⟨rfl, rfl⟩
  go_wp2_with fail
  refine (c2.out _).mono ?_
  rintro e w' ⟨rfl, rfl⟩
  go_wp2_with fail
  refine (HC.out _).mono ?_
  rintro e w' ⟨rfl, hB⟩
  go_wp2_with fail
  refine (HF.out _).mono ?_
  rintro e w' ⟨rfl, rfl⟩
  go_wp2
  go_ret2
  exact ⟨rfl, hB⟩

theorem rfloat_25 (s : Nat) (hs : s = 1 ∨ s = 2 ∨ s = 3 ∨ s = 4) (w : World) :
    Calls Try.prog 41 #[.int .u8 25, .int .u8 (s : Int)] w fun e w' => e = .returned (.tuple #[.bool (fcmp 25 s), .int .i64 0]) ∧ w = w' := by
  rcases hs with rfl | rfl | rfl | rfl
  all_goals
    go_enter Try.func41, Try.ntmps41
    go_wp2
    go_ret2
    exact ⟨rfl, rfl⟩

theorem rhol_25 (a b : Nat) (ha : a ≤ 4294967295) (hb : b ≤ 4294967295) (t : Bool) (h : fcmp 25 (sideOf (single.order a b)) = t) (w : World) :
    Calls Try.prog 22 #[.int .u8 25, .int .u32 (a : Int), .int .u32 (b : Int)] w (Ret w (.tuple #[.bool t, .int .i64 0])) := by
  subst h
  have c1 := Lib.hid (fun W => rsigned_any a ha W)
  have c2 := Lib.hid (fun W => rsigned_any b hb W)
  have HC := Lib.hid (fun W => Stands_any (a : Int) (b : Int) (by omega) (by omega) (by omega) (by omega) W)
  simp only [Int.toNat_natCast] at HC
  have hs := side_in (single.order a b)
  generalize sideOf (single.order a b) = s at *
  have HF := Lib.hid (fun W => rfloat_25 s hs W)
  generalize fcmp 25 s = t at *
  clear hs ha hb
  go_enter Try.func22, Try.ntmps22
  go_wp2_with fail
  refine (c1.out _).mono ?_
  rintro e w' ⟨rfl, rfl⟩
  go_wp2_with fail
  refine (c2.out _).mono ?_
  rintro e w' ⟨rfl, rfl⟩
  go_wp2_with fail
  refine (HC.out _).mono ?_
  rintro e w' ⟨rfl, hB⟩
  go_wp2_with fail
  refine (HF.out _).mono ?_
  rintro e w' ⟨rfl, rfl⟩
  go_wp2
  go_ret2
  exact ⟨rfl, hB⟩

theorem rfloat_26 (s : Nat) (hs : s = 1 ∨ s = 2 ∨ s = 3 ∨ s = 4) (w : World) :
    Calls Try.prog 41 #[.int .u8 26, .int .u8 (s : Int)] w fun e w' => e = .returned (.tuple #[.bool (fcmp 26 s), .int .i64 0]) ∧ w = w' := by
  rcases hs with rfl | rfl | rfl | rfl
  all_goals
    go_enter Try.func41, Try.ntmps41
    go_wp2
    go_ret2
    exact ⟨rfl, rfl⟩

theorem rhol_26 (a b : Nat) (ha : a ≤ 4294967295) (hb : b ≤ 4294967295) (t : Bool) (h : fcmp 26 (sideOf (single.order a b)) = t) (w : World) :
    Calls Try.prog 22 #[.int .u8 26, .int .u32 (a : Int), .int .u32 (b : Int)] w (Ret w (.tuple #[.bool t, .int .i64 0])) := by
  subst h
  have c1 := Lib.hid (fun W => rsigned_any a ha W)
  have c2 := Lib.hid (fun W => rsigned_any b hb W)
  have HC := Lib.hid (fun W => Stands_any (a : Int) (b : Int) (by omega) (by omega) (by omega) (by omega) W)
  simp only [Int.toNat_natCast] at HC
  have hs := side_in (single.order a b)
  generalize sideOf (single.order a b) = s at *
  have HF := Lib.hid (fun W => rfloat_26 s hs W)
  generalize fcmp 26 s = t at *
  clear hs ha hb
  go_enter Try.func22, Try.ntmps22
  go_wp2_with fail
  refine (c1.out _).mono ?_
  rintro e w' ⟨rfl, rfl⟩
  go_wp2_with fail
  refine (c2.out _).mono ?_
  rintro e w' ⟨rfl, rfl⟩
  go_wp2_with fail
  refine (HC.out _).mono ?_
  rintro e w' ⟨rfl, hB⟩
  go_wp2_with fail
  refine (HF.out _).mono ?_
  rintro e w' ⟨rfl, rfl⟩
  go_wp2
  go_ret2
  exact ⟨rfl, hB⟩

theorem rfloat_27 (s : Nat) (hs : s = 1 ∨ s = 2 ∨ s = 3 ∨ s = 4) (w : World) :
    Calls Try.prog 41 #[.int .u8 27, .int .u8 (s : Int)] w fun e w' => e = .returned (.tuple #[.bool (fcmp 27 s), .int .i64 0]) ∧ w = w' := by
  rcases hs with rfl | rfl | rfl | rfl
  all_goals
    go_enter Try.func41, Try.ntmps41
    go_wp2
    go_ret2
    exact ⟨rfl, rfl⟩

theorem rhol_27 (a b : Nat) (ha : a ≤ 4294967295) (hb : b ≤ 4294967295) (t : Bool) (h : fcmp 27 (sideOf (single.order a b)) = t) (w : World) :
    Calls Try.prog 22 #[.int .u8 27, .int .u32 (a : Int), .int .u32 (b : Int)] w (Ret w (.tuple #[.bool t, .int .i64 0])) := by
  subst h
  have c1 := Lib.hid (fun W => rsigned_any a ha W)
  have c2 := Lib.hid (fun W => rsigned_any b hb W)
  have HC := Lib.hid (fun W => Stands_any (a : Int) (b : Int) (by omega) (by omega) (by omega) (by omega) W)
  simp only [Int.toNat_natCast] at HC
  have hs := side_in (single.order a b)
  generalize sideOf (single.order a b) = s at *
  have HF := Lib.hid (fun W => rfloat_27 s hs W)
  generalize fcmp 27 s = t at *
  clear hs ha hb
  go_enter Try.func22, Try.ntmps22
  go_wp2_with fail
  refine (c1.out _).mono ?_
  rintro e w' ⟨rfl, rfl⟩
  go_wp2_with fail
  refine (c2.out _).mono ?_
  rintro e w' ⟨rfl, rfl⟩
  go_wp2_with fail
  refine (HC.out _).mono ?_
  rintro e w' ⟨rfl, hB⟩
  go_wp2_with fail
  refine (HF.out _).mono ?_
  rintro e w' ⟨rfl, rfl⟩
  go_wp2
  go_ret2
  exact ⟨rfl, hB⟩

theorem rfloat_28 (s : Nat) (hs : s = 1 ∨ s = 2 ∨ s = 3 ∨ s = 4) (w : World) :
    Calls Try.prog 41 #[.int .u8 28, .int .u8 (s : Int)] w fun e w' => e = .returned (.tuple #[.bool (fcmp 28 s), .int .i64 0]) ∧ w = w' := by
  rcases hs with rfl | rfl | rfl | rfl
  all_goals
    go_enter Try.func41, Try.ntmps41
    go_wp2
    go_ret2
    exact ⟨rfl, rfl⟩

theorem rhol_28 (a b : Nat) (ha : a ≤ 4294967295) (hb : b ≤ 4294967295) (t : Bool) (h : fcmp 28 (sideOf (single.order a b)) = t) (w : World) :
    Calls Try.prog 22 #[.int .u8 28, .int .u32 (a : Int), .int .u32 (b : Int)] w (Ret w (.tuple #[.bool t, .int .i64 0])) := by
  subst h
  have c1 := Lib.hid (fun W => rsigned_any a ha W)
  have c2 := Lib.hid (fun W => rsigned_any b hb W)
  have HC := Lib.hid (fun W => Stands_any (a : Int) (b : Int) (by omega) (by omega) (by omega) (by omega) W)
  simp only [Int.toNat_natCast] at HC
  have hs := side_in (single.order a b)
  generalize sideOf (single.order a b) = s at *
  have HF := Lib.hid (fun W => rfloat_28 s hs W)
  generalize fcmp 28 s = t at *
  clear hs ha hb
  go_enter Try.func22, Try.ntmps22
  go_wp2_with fail
  refine (c1.out _).mono ?_
  rintro e w' ⟨rfl, rfl⟩
  go_wp2_with fail
  refine (c2.out _).mono ?_
  rintro e w' ⟨rfl, rfl⟩
  go_wp2_with fail
  refine (HC.out _).mono ?_
  rintro e w' ⟨rfl, hB⟩
  go_wp2_with fail
  refine (HF.out _).mono ?_
  rintro e w' ⟨rfl, rfl⟩
  go_wp2
  go_ret2
  exact ⟨rfl, hB⟩

theorem rfloat_other (op s : Int) (h23 : ((op : Int) == 23) = false) (h24 : ((op : Int) == 24) = false) (h25 : ((op : Int) == 25) = false) (h26 : ((op : Int) == 26) = false) (h27 : ((op : Int) == 27) = false) (h28 : ((op : Int) == 28) = false) (w : World) :
    Calls Try.prog 41 #[.int .u8 op, .int .u8 s] w fun e w' => e = .returned (.tuple #[.bool false, .int .i64 61]) ∧ w = w' := by
  go_enter Try.func41, Try.ntmps41
  go_wp2
  go_ret2
  exact ⟨rfl, rfl⟩
theorem rhol_other (op : Int) (a b : Nat) (ha : a ≤ 4294967295) (hb : b ≤ 4294967295) (h13 : ((op : Int) == 13) = false) (h14 : ((op : Int) == 14) = false) (h15 : ((op : Int) == 15) = false) (h16 : ((op : Int) == 16) = false) (h17 : ((op : Int) == 17) = false) (h18 : ((op : Int) == 18) = false) (h19 : ((op : Int) == 19) = false) (h20 : ((op : Int) == 20) = false) (h21 : ((op : Int) == 21) = false) (h22 : ((op : Int) == 22) = false) (h23 : ((op : Int) == 23) = false) (h24 : ((op : Int) == 24) = false) (h25 : ((op : Int) == 25) = false) (h26 : ((op : Int) == 26) = false) (h27 : ((op : Int) == 27) = false) (h28 : ((op : Int) == 28) = false) (w : World) :
    Calls Try.prog 22 #[.int .u8 op, .int .u32 (a : Int), .int .u32 (b : Int)] w (Ret w (.tuple #[.bool false, .int .i64 61])) := by
  have c1 := Lib.hid (fun W => rsigned_any a ha W)
  have c2 := Lib.hid (fun W => rsigned_any b hb W)
  have HC := Lib.hid (fun W => Stands_any (a : Int) (b : Int) (by omega) (by omega) (by omega) (by omega) W)
  have HF := Lib.hid (fun s W => rfloat_other op s h23 h24 h25 h26 h27 h28 W)
  clear ha hb
  go_enter Try.func22, Try.ntmps22
  go_wp2_with fail
  refine (c1.out _).mono ?_
  rintro e w' ⟨rfl, rfl⟩
  go_wp2_with fail
  refine (c2.out _).mono ?_
  rintro e w' ⟨rfl, rfl⟩
  go_wp2_with fail
  refine (HC.out _).mono ?_
  rintro e w' ⟨rfl, hB⟩
  go_wp2_with fail
  refine (HF.out _ _).mono ?_
  rintro e w' ⟨rfl, rfl⟩
  go_wp2
  go_ret2
  exact ⟨rfl, hB⟩
end Go.Proofs.Ytfgbjaejkfkmmaa
