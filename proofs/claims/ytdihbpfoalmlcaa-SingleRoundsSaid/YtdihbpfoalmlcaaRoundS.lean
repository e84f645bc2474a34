/- SingleRounds: both sides are the nearest word. -/
import Derived.Test.YtdihbpfoalmlcaaRoundL
import Derived.Test.YtdihbpfoalmlcaaRoundR
namespace Go.Proofs.Ytdihbpfoalmlcaa
open Go.RowKit Ieee
set_option linter.unusedVariables false

theorem clip_of (p0 : Int) : ∃ p1 p2, max p0 (-2000) = p1 ∧ min p1 2000 = p2 ∧ -2000 ≤ p2 ∧ p2 ≤ 2000 ∧ ((p2 = p0 ∧ -2000 ≤ p0 ∧ p0 ≤ 2000) ∨ (p2 = 2000 ∧ 2000 < p0) ∨ (p2 = -2000 ∧ p0 < -2000)) :=
  ⟨_, _, rfl, rfl, by omega, by omega, by omega⟩
theorem Rd_same {w : World} {x y : Nat} (h : x = y) {f : Nat} {args : Array Value} (hc : Calls Try.prog f args w (Rd w x)) : Calls Try.prog f args w (Rd w y) := h ▸ hc

/-- The program's Round. -/
theorem Round_any (s : Bool) (m : Nat) (hm : m ≤ 18446744073709551615) (p0 : Int) (mo : Bool) :
    ∃ p2 : Int, ((p2 = p0 ∧ -2000 ≤ p0 ∧ p0 ≤ 2000) ∨ (p2 = 2000 ∧ 2000 < p0) ∨ (p2 = -2000 ∧ p0 < -2000)) ∧
    ∀ w, Calls Try.prog 37 #[.bool s, .int .u64 (m : Int), .int .i64 p0, .bool mo] w (Rd w (wordD (single.read (single.nearest s (if mo then 2 * m + 1 else m) (if mo then p2 - 1 else p2))))) := by
  obtain ⟨p1, p2, h1, h2, b1, b2, h3⟩ := clip_of p0
  refine ⟨p2, h3, fun w => ?_⟩
  cases mo with
  | false =>
    rw [if_neg Bool.false_ne_true, if_neg Bool.false_ne_true]
    by_cases h0 : m = 0
    · subst h0
      have hw : wordD (single.read (single.nearest s 0 p2)) = sgB s + 0 := by
        rw [rnd_zero, sgB_eq]
        simp only [wordD]
        rw [if_pos (show 0 < 8388608 by omega)]
      rw [hw]
      exact rw_A_zero s 0 0 0 p0 p1 p2 p2 0 h1 h2 rfl rfl _ rfl (fun W => signed_any s 0 (by omega) W) w
    · exact join_A s m m p0 p1 p2 p2 h1 h2 rfl rfl (by omega) hm (by omega) (by omega) w
  | true =>
    rw [if_pos rfl, if_pos rfl]
    by_cases h63 : m < 9223372036854775808
    · have hor : bits .or .u64 ((m : Int) * 2) 1 = ((2 * m + 1 : Nat) : Int) := by
        have h := or_add 1 (2 * m) 1 (by omega) (by omega) (by omega)
        rw [show ((2 * m : Nat) : Int) = (m : Int) * 2 from by omega] at h
        exact h
      exact join_B s m (2 * m + 1) p0 p1 p2 (p2 - 1) h1 h2 (decide_eq_true (by omega)) (by rw [IntKind.wrap_u64]; omega) hor (IntWalk.i64_in _ (by omega)) (by omega) (by omega) (by omega) (by omega) w
    · exact join_C s m m p0 p1 p2 p2 h1 h2 (decide_eq_false (by omega)) rfl rfl (by omega) hm (by omega) (by omega) (by omega) w

/-- The reference's Round. -/
theorem RefRound_any (s : Bool) (m : Nat) (hm : m ≤ 18446744073709551615) (p0 : Int) (mo : Bool) :
    ∃ p : Int, ((p = p0 ∧ -1000 ≤ p0 ∧ p0 ≤ 1000) ∨ (p = 1000 ∧ 1000 < p0) ∨ (p = -1000 ∧ p0 < -1000)) ∧
    ∀ w, Calls Try.prog 38 #[.bool s, .int .u64 (m : Int), .int .i64 p0, .bool mo] w (Ret w (.int .u32 (wordD (single.read (single.nearest s (if mo then 2 * m + 1 else m) (if mo then p - 1 else p))) : Nat))) := by
  by_cases h1 : 1000 < p0
  · refine ⟨1000, by omega, fun w => ?_⟩
    cases mo with
    | false => exact rr_false_high s m p0 1000 hm (decide_eq_true h1) rfl (by omega) (by omega) w
    | true => exact rr_true_high s m p0 1000 hm (decide_eq_true h1) rfl (by omega) (by omega) w
  · by_cases h2 : p0 < -1000
    · refine ⟨-1000, by omega, fun w => ?_⟩
      cases mo with
      | false => exact rr_false_low s m p0 (-1000) hm (decide_eq_false h1) (decide_eq_true h2) rfl (by omega) (by omega) w
      | true => exact rr_true_low s m p0 (-1000) hm (decide_eq_false h1) (decide_eq_true h2) rfl (by omega) (by omega) w
    · refine ⟨p0, by omega, fun w => ?_⟩
      cases mo with
      | false => exact rr_false_mid s m p0 p0 hm (decide_eq_false h1) (decide_eq_false h2) rfl (by omega) (by omega) w
      | true => exact rr_true_mid s m p0 p0 hm (decide_eq_false h1) (decide_eq_false h2) rfl (by omega) (by omega) w

/-- The two clips come to the same. -/
theorem clip_same (s : Bool) (m : Nat) (hm : m ≤ 18446744073709551615) (p0 p q : Int) (mo : Bool)
    (hp : (p = p0 ∧ -2000 ≤ p0 ∧ p0 ≤ 2000) ∨ (p = 2000 ∧ 2000 < p0) ∨ (p = -2000 ∧ p0 < -2000))
    (hq : (q = p0 ∧ -1000 ≤ p0 ∧ p0 ≤ 1000) ∨ (q = 1000 ∧ 1000 < p0) ∨ (q = -1000 ∧ p0 < -1000)) :
    single.nearest s (if mo then 2 * m + 1 else m) (if mo then p - 1 else p) = single.nearest s (if mo then 2 * m + 1 else m) (if mo then q - 1 else q) := by
  obtain ⟨N, hN⟩ : ∃ N, (if mo then 2 * m + 1 else m) = N := ⟨_, rfl⟩
  obtain ⟨P, hP⟩ : ∃ P, (if mo then p - 1 else p) = P := ⟨_, rfl⟩
  obtain ⟨Q, hQ⟩ : ∃ Q, (if mo then q - 1 else q) = Q := ⟨_, rfl⟩
  rw [hN, hP, hQ]
  have hNl : N < 2 ^ 70 := by cases mo <;> simp at hN <;> omega
  have hPd : P = p ∨ P = p - 1 := by cases mo <;> simp at hP <;> omega
  have hQd : Q - q = P - p := by cases mo <;> simp at hP hQ <;> omega
  by_cases h0 : N = 0
  · rw [h0, near_zero, near_zero]
  · by_cases h1 : 1000 < p0
    · rw [near_high s N P (by omega) (by omega), near_high s N Q (by omega) (by omega)]
    · by_cases h2 : p0 < -1000
      · rw [near_low s N P hNl (by omega), near_low s N Q hNl (by omega)]
      · rw [show P = Q from by omega]

theorem rounds_law (s mo : Bool) (m : Nat) (hm : m ≤ 18446744073709551615) (p0 : Int) (w : World) :
    Calls Try.prog 10 #[.agg #[.bool s, .int .u64 (m : Int), .int .i64 p0, .bool mo]] w (Ret w (.bool true)) := by
  obtain ⟨p, hp, c1⟩ := Round_any s m hm p0 mo
  obtain ⟨q, hq, c2⟩ := RefRound_any s m hm p0 mo
  rw [← clip_same s m hm p0 p q mo hp hq] at c2
  generalize wordD (single.read (single.nearest s (if mo then 2 * m + 1 else m) (if mo then p - 1 else p))) = X at *
  have C1 := Lib.hid c1
  have C2 := Lib.hid c2
  clear c1 c2 hp hq
  go_enter Try.func10, Try.ntmps10
  go_wp2_with fail
  go_region_held3 (fun w' => w'.cell? ⟨w.heap.size, 0, none⟩ = some (.bool s) ∧ w'.cell? ⟨w.heap.size, 1, none⟩ = some (.int .u64 (m : Int)) ∧ w'.cell? ⟨w.heap.size, 2, none⟩ = some (.int .i64 p0) ∧ w'.cell? ⟨w.heap.size, 3, none⟩ = some (.bool mo)) (first | go_keep | (go_split_ands; exact ⟨keepc hb (by assumption), keepc hb (by assumption), keepc hb (by assumption), keepc hb (by assumption)⟩))
    (first
      | (go_at_call 37; refine (C1.out _).mono ?_; rintro e w1 ⟨rfl, j, rfl⟩)
      | (go_at_call 38; refine (C2.out _).mono ?_; rintro e w2 ⟨rfl, hb⟩))
  all_goals
    go_wp2
    go_ret
    refine ⟨by simp, ?_⟩
    repeat (first | exact Below.refl _ _ | refine bs_alloc ?_ _ | refine bs_drew ?_ | refine bs_drewN ?_ _ | (refine bs_step ?_ (by assumption)))
end Go.Proofs.Ytdihbpfoalmlcaa
