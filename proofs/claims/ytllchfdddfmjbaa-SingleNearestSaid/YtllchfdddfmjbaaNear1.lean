/- Contracts of the outright laws' finite, read, halves, shifted, between. -/
import Derived.Test.YtllchfdddfmjbaaVal
import Derived.Test.YtllchfdddfmjbaaSplit
namespace Go.Proofs.Ytllchfdddfmjbaa
open Go.RowKit Ieee
set_option linter.unusedVariables false

theorem finite_any (a : Nat) (h : a ≤ 4294967295) (t : Bool) (ht : decide (a % 2147483648 < 2139095040) = t) (w : World) : Calls Try.prog 25 #[.int .u32 (a : Int)] w fun e w' => e = .returned (.bool t) ∧ w = w' := by
  have hx := bits_low a h
  obtain ⟨r, hr⟩ : ∃ r, r = a % 2147483648 := ⟨_, rfl⟩
  rw [← hr] at hx ht
  have HT := Lib.hid (show decide ((r : Int) < (2139095040 : Int)) = t from by rw [← ht]; exact decide_eq_decide.2 (by omega))
  clear hr ht
  go_enter Try.func25, Try.ntmps25
  go_wp2
  go_ret
  exact ⟨by rw [← HT.out]; first | rfl | (simp; done) | (congr 3; simp; omega), rfl⟩

/-- A finite word's mantissa and power. -/
def rm (a : Nat) : Nat := if a / 8388608 % 256 = 0 then a % 8388608 else a % 8388608 + 8388608
def rp (a : Nat) : Int := if a / 8388608 % 256 = 0 then -149 else ((a / 8388608 % 256 : Nat) : Int) - 150
theorem read_any (a : Nat) (h : a ≤ 4294967295) (w : World) : Calls Try.prog 26 #[.int .u32 (a : Int)] w fun e w' => e = .returned (.tuple #[.int .u64 (rm a : Nat), .int .i64 (rp a)]) ∧ w = w' := by
  obtain ⟨F, hF⟩ : ∃ F, F = a % 8388608 := ⟨_, rfl⟩
  obtain ⟨E, hE⟩ : ∃ E, E = a / 8388608 % 256 := ⟨_, rfl⟩
  have b1 : bits .and .u32 ((a : Int) / 8388608) 255 = (E : Int) := by
    rw [hE, show (a : Int) / 8388608 = ((a / 8388608 : Nat) : Int) from by omega]; exact and32 _ 8 (by omega) 255 rfl (by omega)
  have b2 : bits .and .u32 (a : Int) 8388607 = (F : Int) := by rw [hF]; exact and32 _ 23 (by omega) 8388607 rfl (by omega)
  have hE2 : E ≤ 255 := by omega
  have hF2 : F ≤ 8388607 := by omega
  by_cases h0 : E = 0
  · have HM := Lib.hid (show rm a = F from by unfold rm; rw [← hE, if_pos h0, ← hF])
    have HP := Lib.hid (show rp a = -149 from by unfold rp; rw [← hE, if_pos h0])
    subst h0
    rw [HM.out, HP.out]
    clear hE hF
    go_enter Try.func26, Try.ntmps26
    go_wp2
    go_ret2
    exact ⟨rfl, rfl⟩
  · have HM := Lib.hid (show rm a = F + 8388608 from by unfold rm; rw [← hE, if_neg h0, ← hF])
    have HP := Lib.hid (show rp a = (E : Int) - 150 from by unfold rp; rw [← hE, if_neg h0])
    have ht : ((E : Int) == 0) = false := by rw [beq_eq_false_iff_ne]; omega
    rw [HM.out, HP.out]
    clear hE hF h0
    go_enter Try.func26, Try.ntmps26
    go_wp2
    go_ret2
    exact ⟨rfl, rfl⟩
theorem rm_lt (a : Nat) : rm a < 16777216 := by unfold rm; split <;> omega
theorem rp_in (a : Nat) : -149 ≤ rp a ∧ rp a ≤ 105 := by unfold rp; split <;> omega
/-- The value of a finite word. -/
theorem rm_val (a : Nat) (h : Fin32 a) : V single (a % 2147483648) = rm a * 2 ^ (rp a + 149).toNat := by
  unfold Fin32 at h
  have hrow := V_row single (a / 8388608 % 256 - 1) (rm a)
  rw [s_b] at hrow
  by_cases h0 : a / 8388608 % 256 = 0
  · have e1 : rm a = a % 8388608 := by unfold rm; rw [if_pos h0]
    have e2 : rp a = -149 := by unfold rp; rw [if_pos h0]
    rw [e1] at hrow ⊢
    rw [e2, show ((-149 : Int) + 149).toNat = 0 from rfl]
    have := hrow (by omega) (.inl (by omega))
    rw [show (a / 8388608 % 256 - 1) * 8388608 + a % 8388608 = a % 2147483648 from by omega, show a / 8388608 % 256 - 1 = 0 from by omega] at this
    exact this
  · have e1 : rm a = a % 8388608 + 8388608 := by unfold rm; rw [if_neg h0]
    have e2 : rp a = ((a / 8388608 % 256 : Nat) : Int) - 150 := by unfold rp; rw [if_neg h0]
    rw [e1] at hrow ⊢
    rw [e2, show (((a / 8388608 % 256 : Nat) : Int) - 150 + 149).toNat = a / 8388608 % 256 - 1 from by omega]
    have := hrow (by omega) (.inr (by omega))
    rw [show (a / 8388608 % 256 - 1) * 8388608 + (a % 8388608 + 8388608) = a % 2147483648 from by omega] at this
    exact this

/-! ### halves -/
def hlo (r : Nat) : Nat := if rm r = 8388608 ∧ -149 < rp r then 4 * rm r - 1 else 4 * rm r - 2
theorem halves_any (r : Nat) (h : r ≤ 4294967295) (h0 : 0 < rm r) (w : World) : Calls Try.prog 27 #[.int .u32 (r : Int)] w fun e w' => e = .returned (.tuple #[.int .u64 (hlo r : Nat), .int .u64 ((4 * rm r + 2 : Nat) : Int), .int .i64 (rp r - 2), .bool (rm r % 2 == 0)]) ∧ w = w' := by
  have hr := fun W => read_any r h W
  have hm := rm_lt r
  have hp := rp_in r
  have hl : hlo r = if rm r = 8388608 ∧ -149 < rp r then 4 * rm r - 1 else 4 * rm r - 2 := rfl
  generalize rm r = m at *
  generalize rp r = p at *
  have HR := Lib.hid hr
  have w1 : IntKind.u64.wrap (4 * (m : Int)) = 4 * (m : Int) := by rw [IntKind.wrap_u64]; omega
  have w2 : IntKind.u64.wrap (4 * (m : Int) - 2) = 4 * (m : Int) - 2 := by rw [IntKind.wrap_u64]; omega
  have w3 : IntKind.u64.wrap (4 * (m : Int) - 1) = 4 * (m : Int) - 1 := by rw [IntKind.wrap_u64]; omega
  have w4 : IntKind.u64.wrap (4 * (m : Int) + 2) = 4 * (m : Int) + 2 := by rw [IntKind.wrap_u64]; omega
  have w5 : IntKind.i64.wrap (p - 2) = p - 2 := IntWalk.i64_in _ (by omega)
  have hev : (((m : Int) % 2) == 0) = (m % 2 == 0) := by rw [Bool.eq_iff_iff]; simp only [beq_iff_eq]; omega
  clear hr
  by_cases c1 : m = 8388608
  · by_cases c2 : -149 < p
    · have HL := Lib.hid (show ((hlo r : Nat) : Int) = 4 * (m : Int) - 1 from by rw [hl, if_pos ⟨c1, c2⟩]; omega)
      have d1 : ((m : Int) == 8388608) = true := by rw [beq_iff_eq]; omega
      have d2 : decide (-149 < p) = true := decide_eq_true c2
      clear hl c1 c2 hp
      go_enter Try.func27, Try.ntmps27
      go_wp2_with fail
      refine (HR.out _).mono ?_
      rintro e w' ⟨rfl, rfl⟩
      go_wp2
      exact bodyPost_ret (v := .tuple #[.int .u64 (4 * (m : Int) - 1), .int .u64 (4 * (m : Int) + 2), .int .i64 (p - 2), .bool (m % 2 == 0)]) (by simp [results, Try.results27, go_sem]) rfl ⟨by rw [HL.out]; rfl, rfl⟩
    · have HL := Lib.hid (show ((hlo r : Nat) : Int) = 4 * (m : Int) - 2 from by rw [hl, if_neg (fun h => c2 h.2)]; omega)
      have d1 : ((m : Int) == 8388608) = true := by rw [beq_iff_eq]; omega
      have d2 : decide (-149 < p) = false := decide_eq_false c2
      clear hl c1 c2 hp
      go_enter Try.func27, Try.ntmps27
      go_wp2_with fail
      refine (HR.out _).mono ?_
      rintro e w' ⟨rfl, rfl⟩
      go_wp2
      exact bodyPost_ret (v := .tuple #[.int .u64 (4 * (m : Int) - 2), .int .u64 (4 * (m : Int) + 2), .int .i64 (p - 2), .bool (m % 2 == 0)]) (by simp [results, Try.results27, go_sem]) rfl ⟨by rw [HL.out]; rfl, rfl⟩
  · have HL := Lib.hid (show ((hlo r : Nat) : Int) = 4 * (m : Int) - 2 from by rw [hl, if_neg (fun h => c1 h.1)]; omega)
    have d1 : ((m : Int) == 8388608) = false := by rw [beq_eq_false_iff_ne]; omega
    skip
    skip
    clear hl c1 hp
    go_enter Try.func27, Try.ntmps27
    go_wp2_with fail
    refine (HR.out _).mono ?_
    rintro e w' ⟨rfl, rfl⟩
    go_wp2
    exact bodyPost_ret (v := .tuple #[.int .u64 (4 * (m : Int) - 2), .int .u64 (4 * (m : Int) + 2), .int .i64 (p - 2), .bool (m % 2 == 0)]) (by simp [results, Try.results27, go_sem]) rfl ⟨by rw [HL.out]; rfl, rfl⟩

/-! ### shifted, between -/
def shW (x n : Nat) : Nat := if x * 2 ^ n ≤ 4611686018427387904 then x * 2 ^ n else 4611686018427387904
theorem shifted_any (x n : Nat) (hx : x < 18446744073709551616) (hn : n ≤ 100000) (w : World) : Calls Try.prog 48 #[.int .u64 (x : Int), .int .i64 (n : Int)] w fun e w' => e = .returned (.int .u64 (shW x n : Nat)) ∧ w = w' := by
  by_cases h0 : x = 0
  · subst h0
    have HR := Lib.hid (show shW 0 n = 0 from by unfold shW; rw [Nat.zero_mul, if_pos (by omega)])
    rw [HR.out]
    go_enter Try.func48, Try.ntmps48
    go_wp2
    go_ret
    exact ⟨rfl, rfl⟩
  · have hz : ((x : Int) == 0) = false := by rw [beq_eq_false_iff_ne]; omega
    by_cases h1 : 62 < n
    · have HR := Lib.hid (show shW x n = 4611686018427387904 from by
        unfold shW
        rw [if_neg]
        have : 2 ^ 63 ≤ 2 ^ n := Nat.pow_le_pow_right (by omega) h1
        have h2 : 2 ^ n ≤ x * 2 ^ n := Nat.le_mul_of_pos_left _ (by omega)
        omega)
      have d1 : decide ((62 : Int) < (n : Int)) = true := decide_eq_true (by omega)
      rw [HR.out]
      clear h0 h1
      go_enter Try.func48, Try.ntmps48
      go_wp2
      go_ret
      exact ⟨rfl, rfl⟩
    · have d1 : decide ((62 : Int) < (n : Int)) = false := decide_eq_false (by omega)
      have hwn : IntKind.u64.wrap (n : Int) = (n : Int) := by rw [IntKind.wrap_u64]; omega
      obtain ⟨D, hD⟩ : ∃ D, 4611686018427387904 / 2 ^ n = D := ⟨_, rfl⟩
      have hmin : min n 64 = n := by omega
      have e1 : (4611686018427387904 : Int) / 2 ^ n = (D : Int) := by rw [← hD, Int.natCast_ediv, Int.natCast_pow]; rfl
      have hP : 0 < 2 ^ n := Nat.two_pow_pos n
      have hle : x ≤ D ↔ x * 2 ^ n ≤ 4611686018427387904 := by rw [← hD]; exact Nat.le_div_iff_mul_le hP
      by_cases h2 : D < x
      · have HR := Lib.hid (show shW x n = 4611686018427387904 from by unfold shW; rw [if_neg (fun h => by have := hle.2 h; omega)])
        have d2 : decide ((D : Int) < (x : Int)) = true := decide_eq_true (by omega)
        rw [HR.out]
        clear h0 h1 hD hle
        go_enter Try.func48, Try.ntmps48
        go_wp2
        go_ret
        exact ⟨rfl, rfl⟩
      · have hxn : x * 2 ^ n ≤ 4611686018427387904 := hle.1 (by omega)
        have HR := Lib.hid (show shW x n = x * 2 ^ n from by unfold shW; rw [if_pos hxn])
        have d2 : decide ((D : Int) < (x : Int)) = false := decide_eq_false (by omega)
        obtain ⟨R, hR⟩ : ∃ R, x * 2 ^ n = R := ⟨_, rfl⟩
        rw [hR] at hxn HR
        have e2 : IntKind.u64.wrap ((x : Int) * 2 ^ n) = (R : Int) := by
          rw [show (x : Int) * 2 ^ n = ((x * 2 ^ n : Nat) : Int) from by rw [Int.natCast_mul, Int.natCast_pow]; rfl, hR, IntKind.wrap_u64]; omega
        rw [HR.out]
        clear h0 h1 hD hle hR
        go_enter Try.func48, Try.ntmps48
        go_wp2
        go_ret
        exact ⟨rfl, rfl⟩

/-- v stands between, the ends in or not. -/
theorem between_core (v l h : Nat) (pw at_ : Int) (lo hi : Nat) (value : Nat) (ends : Bool) (up : Bool) (n : Nat) (hv : value < 18446744073709551616) (hlo : lo < 18446744073709551616) (hhi : hi < 18446744073709551616) (hn : n ≤ 100000)
    (hup : decide (at_ ≤ pw) = up) (hdiff : IntKind.i64.wrap (if up then pw - at_ else at_ - pw) = (n : Int))
    (ev : v = if up then shW value n else value) (el : l = if up then lo else shW lo n) (eh : h = if up then hi else shW hi n)
    (h1 : l < v ∨ (l = v ∧ ends = true)) (h2 : v < h ∨ (v = h ∧ ends = true)) (w : World) :
    Calls Try.prog 28 #[.int .u64 (value : Int), .int .i64 pw, .int .u64 (lo : Int), .int .u64 (hi : Int), .int .i64 at_, .bool ends] w fun e w' => e = .returned (.bool true) ∧ w = w' := by
  have s1 := fun W => shifted_any value n hv hn W
  have s2 := fun W => shifted_any lo n hlo hn W
  have s3 := fun W => shifted_any hi n hhi hn W
  cases up with
  | true =>
    rw [if_pos rfl] at ev el eh hdiff
    rw [← ev] at s1
    have S1 := Lib.hid s1
    subst el eh
    clear s1 s2 s3 ev
    rcases h1 with h1 | ⟨h1, he⟩ <;> rcases h2 with h2 | ⟨h2, he2⟩
    · have d1 : decide ((l : Int) < (v : Int)) = true := decide_eq_true (by omega)
      have d2 : decide ((v : Int) < (h : Int)) = true := decide_eq_true (by omega)
      go_enter Try.func28, Try.ntmps28
      go_wp2_with fail
      refine (S1.out _).mono ?_
      rintro e w' ⟨rfl, rfl⟩
      go_wp2
      go_ret
      exact ⟨rfl, rfl⟩
    · subst h2 he2
      have d1 : decide ((l : Int) < (v : Int)) = true := decide_eq_true (by omega)
      go_enter Try.func28, Try.ntmps28
      go_wp2_with fail
      refine (S1.out _).mono ?_
      rintro e w' ⟨rfl, rfl⟩
      go_wp2
      go_ret
      exact ⟨rfl, rfl⟩
    · subst h1 he
      have d2 : decide ((l : Int) < (h : Int)) = true := decide_eq_true (by omega)
      go_enter Try.func28, Try.ntmps28
      go_wp2_with fail
      refine (S1.out _).mono ?_
      rintro e w' ⟨rfl, rfl⟩
      go_wp2
      go_ret
      exact ⟨rfl, rfl⟩
    · subst h1 h2 he
      go_enter Try.func28, Try.ntmps28
      go_wp2_with fail
      refine (S1.out _).mono ?_
      rintro e w' ⟨rfl, rfl⟩
      go_wp2
      go_ret
      exact ⟨rfl, rfl⟩
  | false =>
    rw [if_neg Bool.false_ne_true] at ev el eh hdiff
    rw [← el] at s2
    rw [← eh] at s3
    have S2 := Lib.hid s2
    have S3 := Lib.hid s3
    subst ev
    clear s1 s2 s3 el eh
    rcases h1 with h1 | ⟨h1, he⟩ <;> rcases h2 with h2 | ⟨h2, he2⟩
    · have d1 : decide ((l : Int) < (v : Int)) = true := decide_eq_true (by omega)
      have d2 : decide ((v : Int) < (h : Int)) = true := decide_eq_true (by omega)
      go_enter Try.func28, Try.ntmps28
      go_wp2_with fail
      refine (S2.out _).mono ?_
      rintro e w' ⟨rfl, rfl⟩
      go_wp2_with fail
      refine (S3.out _).mono ?_
      rintro e w' ⟨rfl, rfl⟩
      go_wp2
      go_ret
      exact ⟨rfl, rfl⟩
    · subst h2 he2
      have d1 : decide ((l : Int) < (v : Int)) = true := decide_eq_true (by omega)
      go_enter Try.func28, Try.ntmps28
      go_wp2_with fail
      refine (S2.out _).mono ?_
      rintro e w' ⟨rfl, rfl⟩
      go_wp2_with fail
      refine (S3.out _).mono ?_
      rintro e w' ⟨rfl, rfl⟩
      go_wp2
      go_ret
      exact ⟨rfl, rfl⟩
    · subst h1 he
      have d2 : decide ((l : Int) < (h : Int)) = true := decide_eq_true (by omega)
      go_enter Try.func28, Try.ntmps28
      go_wp2_with fail
      refine (S2.out _).mono ?_
      rintro e w' ⟨rfl, rfl⟩
      go_wp2_with fail
      refine (S3.out _).mono ?_
      rintro e w' ⟨rfl, rfl⟩
      go_wp2
      go_ret
      exact ⟨rfl, rfl⟩
    · subst h1 h2 he
      go_enter Try.func28, Try.ntmps28
      go_wp2_with fail
      refine (S2.out _).mono ?_
      rintro e w' ⟨rfl, rfl⟩
      go_wp2_with fail
      refine (S3.out _).mono ?_
      rintro e w' ⟨rfl, rfl⟩
      go_wp2
      go_ret
      exact ⟨rfl, rfl⟩
end Go.Proofs.Ytllchfdddfmjbaa
