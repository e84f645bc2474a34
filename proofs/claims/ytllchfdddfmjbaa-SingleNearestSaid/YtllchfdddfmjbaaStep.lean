/- Contracts of package single: none, Turned, Above, Below. -/
import Derived.Test.YtllchfdddfmjbaaTurn
namespace Go.Proofs.Ytllchfdddfmjbaa
open Go.RowKit Ieee

/-- The next word above. -/
def aboveW (a : Nat) : Nat :=
  if 2139095040 < a % 2147483648 then 2143289344 else if a = 2139095040 then a else if a % 2147483648 = 0 then 1 else if a < 2147483648 then a + 1 else a - 1
def belowW (a : Nat) : Nat := if 2139095040 < a % 2147483648 then 2143289344 else turnW (aboveW (turnW a))

theorem aboveW_lt {a : Nat} (h : a ≤ 4294967295) : aboveW a ≤ 4294967295 := by
  unfold aboveW
  split
  · omega
  · split
    · omega
    · split
      · omega
      · split <;> omega

theorem snone_any (a : Nat) (h : a ≤ 4294967295) (t : Bool) (ht : decide (2139095040 < a % 2147483648) = t) (w : World) : Calls Try.prog 42 #[.int .u32 a] w fun e w' => e = .returned (.bool t) ∧ w = w' := by
  have hx := bits_size a h
  obtain ⟨r, hr⟩ : ∃ r, r = a % 2147483648 := ⟨_, rfl⟩
  rw [← hr] at hx ht
  have HT := Lib.hid (show decide ((2139095040 : Int) < (r : Int)) = t from by rw [← ht]; exact decide_eq_decide.2 (by omega))
  clear hr ht
  go_enter Try.func42, Try.ntmps42
  go_wp2
  go_ret
  exact ⟨by rw [← HT.out]; first | rfl | (simp; done) | (congr 3; simp; omega), rfl⟩

theorem Above_any (a : Nat) (h : a ≤ 4294967295) (w : World) : Calls Try.prog 20 #[.int .u32 a] w fun e w' => e = .returned (.int .u32 (aboveW a : Nat)) ∧ w = w' := by
  have hx := bits_size a h
  have hy := bits_sign a h
  by_cases h1 : 2139095040 < a % 2147483648
  · have HR := Lib.hid (show aboveW a = 2143289344 from by unfold aboveW; rw [if_pos h1])
    have HN := Lib.hid (show decide (2139095040 < a % 2147483648) = true from decide_eq_true h1)
    clear hx hy h1
    go_enter Try.func20, Try.ntmps20
    go_wp2_with (go_at_call 42; refine (snone_any a h true HN.out _).mono ?_; rintro e w' ⟨rfl, rfl⟩)
    go_ret
    exact ⟨by rw [HR.out]; rfl, rfl⟩
  · have HN := Lib.hid (show decide (2139095040 < a % 2147483648) = false from decide_eq_false h1)
    by_cases h2 : a = 2139095040
    · have HR := Lib.hid (show aboveW a = a from by unfold aboveW; rw [if_neg h1, if_pos h2])
      have ht : ((a : Int) == 2139095040) = true := by rw [beq_iff_eq]; omega
      clear hx hy h1 h2
      go_enter Try.func20, Try.ntmps20
      go_wp2_with (go_at_call 42; refine (snone_any a h false HN.out _).mono ?_; rintro e w' ⟨rfl, rfl⟩)
      go_ret
      exact ⟨by rw [HR.out]; rfl, rfl⟩
    · have ht : ((a : Int) == 2139095040) = false := by rw [beq_eq_false_iff_ne]; omega
      by_cases h3 : a % 2147483648 = 0
      · have HR := Lib.hid (show aboveW a = 1 from by unfold aboveW; rw [if_neg h1, if_neg h2, if_pos h3])
        rw [h3] at hx
        clear hy h1 h2 h3
        go_enter Try.func20, Try.ntmps20
        go_wp2_with (go_at_call 42; refine (snone_any a h false HN.out _).mono ?_; rintro e w' ⟨rfl, rfl⟩)
        go_ret
        exact ⟨by rw [HR.out]; rfl, rfl⟩
      · obtain ⟨r, hr, hr0⟩ : ∃ r : Nat, a % 2147483648 = r ∧ ((r : Int) == 0) = false := ⟨_, rfl, by rw [beq_eq_false_iff_ne]; omega⟩
        rw [hr] at hx
        by_cases h4 : a < 2147483648
        · have HR := Lib.hid (show aboveW a = a + 1 from by unfold aboveW; rw [if_neg h1, if_neg h2, if_neg h3, if_pos h4])
          rw [show a / 2147483648 * 2147483648 = 0 from by omega] at hy
          clear h1 h2 h3 hr
          go_enter Try.func20, Try.ntmps20
          go_wp2_with (go_at_call 42; refine (snone_any a h false HN.out _).mono ?_; rintro e w' ⟨rfl, rfl⟩)
          go_ret
          exact ⟨by rw [HR.out]; rfl, rfl⟩
        · have HR := Lib.hid (show ((aboveW a : Nat) : Int) = (a : Int) - 1 from by unfold aboveW; rw [if_neg h1, if_neg h2, if_neg h3, if_neg h4]; omega)
          rw [show a / 2147483648 * 2147483648 = 2147483648 from by omega] at hy
          clear h1 h2 h3 hr
          go_enter Try.func20, Try.ntmps20
          go_wp2_with (go_at_call 42; refine (snone_any a h false HN.out _).mono ?_; rintro e w' ⟨rfl, rfl⟩)
          go_ret
          exact ⟨by rw [HR.out]; rfl, rfl⟩

theorem Below_any (a : Nat) (h : a ≤ 4294967295) (w : World) : Calls Try.prog 21 #[.int .u32 a] w fun e w' => e = .returned (.int .u32 (belowW a : Nat)) ∧ w = w' := by
  by_cases h1 : 2139095040 < a % 2147483648
  · have HR := Lib.hid (show belowW a = 2143289344 from by unfold belowW; rw [if_pos h1])
    have HN := Lib.hid (show decide (2139095040 < a % 2147483648) = true from decide_eq_true h1)
    clear h1
    go_enter Try.func21, Try.ntmps21
    go_wp2_with (go_at_call 42; refine (snone_any a h true HN.out _).mono ?_; rintro e w' ⟨rfl, rfl⟩)
    go_ret
    exact ⟨by rw [HR.out]; rfl, rfl⟩
  · have HR := Lib.hid (show belowW a = turnW (aboveW (turnW a)) from by unfold belowW; rw [if_neg h1])
    have HN := Lib.hid (show decide (2139095040 < a % 2147483648) = false from decide_eq_false h1)
    clear h1
    have h2 := turnW_lt h
    have h3 := aboveW_lt h2
    go_enter Try.func21, Try.ntmps21
    go_wp2_with fail
    refine (snone_any a h false HN.out _).mono ?_
    rintro e w' ⟨rfl, rfl⟩
    go_wp2_with fail
    refine (Turned_any a h _).mono ?_
    rintro e w' ⟨rfl, rfl⟩
    go_wp2_with fail
    refine (Above_any _ h2 _).mono ?_
    rintro e w' ⟨rfl, rfl⟩
    go_wp2_with fail
    refine (Turned_any _ h3 _).mono ?_
    rintro e w' ⟨rfl, rfl⟩
    go_wp2
    go_ret
    exact ⟨by rw [HR.out]; rfl, rfl⟩
end Go.Proofs.Ytllchfdddfmjbaa
