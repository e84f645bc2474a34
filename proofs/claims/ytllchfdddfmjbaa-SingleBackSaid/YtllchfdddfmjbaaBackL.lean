/- SingleBack at parts whose word the program tells. -/
import Derived.Test.YtllchfdddfmjbaaJoin
import Derived.Test.YtllchfdddfmjbaaNarrow
namespace Go.Proofs.Ytllchfdddfmjbaa
open Go.RowKit Ieee
set_option linter.unusedVariables false

set_option maxHeartbeats 1000000 in
theorem alike_same (S : Int) (s : Bool) (m p : Int) (w : World) : Calls Try.prog 39 #[pval S s m p, pval S s m p] w (Ret w (.bool true)) := by
  unfold pval
  go_enter Try.func39, Try.ntmps39
  go_wp2
  go_ret
  exact ⟨rfl, by repeat (first | exact Below.refl _ _ | refine bs_alloc ?_ _)⟩

theorem parD_form (d : Datum) : ∃ (s : Int) (m : Bool) (n p : Int), parD d = pval s m n p := by
  cases d with
  | number s m p => exact ⟨3, s, m, p, rfl⟩
  | infinity s => exact ⟨2, s, 0, 0, rfl⟩
  | nan _ _ => exact ⟨1, false, 0, 0, rfl⟩

/-- A word's parts, joined. -/
theorem join_back (a : Nat) (ha : a ≤ 4294967295) (W : World) : Calls Try.prog 38 #[parD (single.read a)] W (Ret W (.tuple #[.int .u32 (oneW a : Nat), .int .i64 0])) := by
  obtain ⟨h1, h2, h3, h4⟩ := parts_of a
  obtain ⟨s, hs⟩ : ∃ s, (a / 2147483648 % 2 == 1) = s := ⟨_, rfl⟩
  simp only [hs] at h1 h2 h3 h4
  have hsg : sgB s = a / 2147483648 * 2147483648 := by
    rw [← hs]
    by_cases hc : a / 2147483648 = 1
    · rw [hc]; rfl
    · rw [show a / 2147483648 = 0 from by omega]; rfl
  by_cases hE : a / 8388608 % 256 = 255
  · by_cases hF : a % 8388608 = 0
    · rw [h2 hE hF]
      have h := join_2_ok s W
      rw [show sgB s + 2139095040 = oneW a from by unfold oneW; rw [if_neg (by omega), hsg]; omega] at h
      exact h
    · rw [h1 hE hF, show oneW a = 2143289344 from by unfold oneW; rw [if_pos (by omega)]]
      exact join_1_ok W
  · have ho : oneW a = a := by unfold oneW; rw [if_neg (by omega)]
    by_cases hZ : a / 8388608 % 256 = 0
    · rw [h3 hZ]
      have h := join_3_low s (a % 8388608) W (by omega)
      rw [show sgB s + a % 8388608 = oneW a from by rw [ho, hsg]; omega] at h
      exact h
    · rw [h4 hZ hE]
      have h := join_3_high s (a % 8388608 + 8388608) ((-149) + ((a / 8388608 % 256 : Nat) : Int) - 1) W (by omega) (by omega) (by omega) (by omega)
      rw [show sgB s + (((-149) + ((a / 8388608 % 256 : Nat) : Int) - 1 + 150).toNat * 8388608 + (a % 8388608 + 8388608 - 8388608)) = oneW a from by
        rw [ho, hsg, show ((-149) + ((a / 8388608 % 256 : Nat) : Int) - 1 + 150).toNat = a / 8388608 % 256 from by omega]; omega] at h
      exact h

/-- The head of SingleBack: what it tells of a. -/
def HeadOk (a : Nat) (O T Z X : Nat) (q0 : Int) (q1 : Bool) (q2 q3 : Int) : Prop :=
  (∀ W, Calls Try.prog 18 #[.int .u32 (a : Int)] W (Ret W (pval q0 q1 q2 q3))) ∧
  (∀ W, Calls Try.prog 38 #[pval q0 q1 q2 q3] W (Ret W (.tuple #[.int .u32 (O : Nat), .int .i64 0]))) ∧
  (∀ W, Calls Try.prog 35 #[.int .u32 (a : Int)] W fun e w' => e = .returned (.int .u32 (O : Nat)) ∧ W = w') ∧
  (∀ W, Calls Try.prog 32 #[.int .u32 (a : Int)] W fun e w' => e = .returned (.int .u64 (X : Nat)) ∧ W = w') ∧
  (∀ W, Calls Try.prog 24 #[.int .u64 (X : Int)] W (Got W (.int .u32 (O : Nat)))) ∧
  (∀ W, Calls Try.prog 33 #[.int .u32 (a : Int)] W fun e w' => e = .returned (.int .u32 (T : Nat)) ∧ W = w') ∧
  (∀ W, Calls Try.prog 33 #[.int .u32 (T : Int)] W fun e w' => e = .returned (.int .u32 (a : Nat)) ∧ W = w') ∧
  bits .and .u32 (a : Int) 2147483647 = (Z : Int) ∧ bits .and .u32 (T : Int) 2147483647 = (Z : Int) ∧ ((T : Int) == (a : Int)) = false

theorem head_ok (a : Nat) (ha : a ≤ 4294967295) : ∃ O T Z X q0 q1 q2 q3, HeadOk a O T Z X q0 q1 q2 q3 := by
  obtain ⟨q0, q1, q2, q3, hq⟩ := parD_form (single.read a)
  obtain ⟨X, hX1, hX2⟩ := wide_back a ha
  have hTl : turnW a ≤ 4294967295 := turnW_lt ha
  have h1 := fun W => Split_any a ha W
  have h2 := fun W => join_back a ha W
  rw [hq] at h1 h2
  refine ⟨oneW a, turnW a, a % 2147483648, X, q0, q1, q2, q3, h1, h2, fun W => one_any a _ ha rfl W, hX1, hX2, fun W => Turned_is a _ ha rfl W, fun W => Turned_is (turnW a) a hTl ?_ W, bits_low a ha, ?_, ?_⟩
  · unfold turnW; split <;> split <;> omega
  · rw [bits_low _ hTl, turn_mod a ha]
  · rw [beq_eq_false_iff_ne]; unfold turnW; split <;> omega

set_option maxHeartbeats 2000000 in
theorem back_no (a : Nat) (ha : a ≤ 4294967295) (S : Int) (s : Bool) (m p : Int)
    (h1 : ∀ W, Calls Try.prog 38 #[pval S s m p] W (Ret W (.tuple #[.int .u32 0, .int .i64 30]))) (w : World) :
    Calls Try.prog 11 #[.int .u32 (a : Int), pval S s m p] w (Ret w (.bool true)) := by
  have CC := Lib.hid h1
  clear h1
  obtain ⟨O, T, Z, X, q0, q1, q2, q3, g1, g2, g3, g4, g5, g6, g7, g8, g9, g10⟩ := head_ok a ha
  unfold pval at g1 g2 CC ⊢
  have C1 := Lib.hid g1
  have C2 := Lib.hid g2
  have C3 := Lib.hid g3
  have C4 := Lib.hid g4
  have C5 := Lib.hid g5
  have C6 := Lib.hid g6
  have C7 := Lib.hid g7
  clear g1 g2 g3 g4 g5 g6 g7
  go_enter Try.func11, Try.ntmps11
  go_wp2_with fail
  refine (C1.out _).mono ?_
  rintro e w1 ⟨rfl, hB⟩
  go_wp2_with fail
  refine (C2.out _).mono ?_
  rintro e w2 ⟨rfl, hb⟩
  replace hB := hB.trans (hb.mono hB.size)
  clear hb
  go_wp2_with fail
  refine (C3.out _).mono ?_
  rintro e w' ⟨rfl, rfl⟩
  go_wp2_with fail
  refine (C4.out _).mono ?_
  rintro e w' ⟨rfl, rfl⟩
  go_wp2_with fail
  refine (C5.out _).mono ?_
  rintro e w' ⟨rfl, n1, rfl⟩
  go_wp2_with fail
  refine (C3.out _).mono ?_
  rintro e w' ⟨rfl, rfl⟩
  go_wp2_with fail
  refine (C6.out _).mono ?_
  rintro e w' ⟨rfl, rfl⟩
  go_wp2_with fail
  refine (C7.out _).mono ?_
  rintro e w' ⟨rfl, rfl⟩
  go_wp2_with fail
  refine (C6.out _).mono ?_
  rintro e w' ⟨rfl, rfl⟩
  go_wp2_with fail
  refine (C6.out _).mono ?_
  rintro e w' ⟨rfl, rfl⟩
  replace hB := bel_drewN hB n1
  obtain ⟨hc, hf⟩ := bel_cells hB
  go_wp2_with fail
  refine (CC.out _).mono ?_
  rintro e w5 ⟨rfl, hb⟩
  replace hB := hB.trans (hb.mono hB.size)
  clear hb hc hf
  go_wp2_with fail
  refine (awake_any _).mono ?_
  rintro e w' ⟨rfl, n2, rfl⟩
  go_wp2
  go_ret
  exact ⟨rfl, bel_1 _ _ (bel_drewN hB n2)⟩

set_option maxHeartbeats 2000000 in
theorem back_yes (a : Nat) (ha : a ≤ 4294967295) (S : Int) (s : Bool) (m p : Int) (v : Nat)
    (h1 : ∀ W, Calls Try.prog 38 #[pval S s m p] W (Ret W (.tuple #[.int .u32 (v : Nat), .int .i64 0])))
    (h2 : ∀ W, Calls Try.prog 18 #[.int .u32 (v : Int)] W (Ret W (pval S s m p))) (w : World) :
    Calls Try.prog 11 #[.int .u32 (a : Int), pval S s m p] w (Ret w (.bool true)) := by
  have CC := Lib.hid h1
  have CS := Lib.hid h2
  have CA := Lib.hid (fun W => alike_same S s m p W)
  clear h1 h2
  unfold pval at CS CA
  obtain ⟨O, T, Z, X, q0, q1, q2, q3, g1, g2, g3, g4, g5, g6, g7, g8, g9, g10⟩ := head_ok a ha
  unfold pval at g1 g2 CC ⊢
  have C1 := Lib.hid g1
  have C2 := Lib.hid g2
  have C3 := Lib.hid g3
  have C4 := Lib.hid g4
  have C5 := Lib.hid g5
  have C6 := Lib.hid g6
  have C7 := Lib.hid g7
  clear g1 g2 g3 g4 g5 g6 g7
  go_enter Try.func11, Try.ntmps11
  go_wp2_with fail
  refine (C1.out _).mono ?_
  rintro e w1 ⟨rfl, hB⟩
  go_wp2_with fail
  refine (C2.out _).mono ?_
  rintro e w2 ⟨rfl, hb⟩
  replace hB := hB.trans (hb.mono hB.size)
  clear hb
  go_wp2_with fail
  refine (C3.out _).mono ?_
  rintro e w' ⟨rfl, rfl⟩
  go_wp2_with fail
  refine (C4.out _).mono ?_
  rintro e w' ⟨rfl, rfl⟩
  go_wp2_with fail
  refine (C5.out _).mono ?_
  rintro e w' ⟨rfl, n1, rfl⟩
  go_wp2_with fail
  refine (C3.out _).mono ?_
  rintro e w' ⟨rfl, rfl⟩
  go_wp2_with fail
  refine (C6.out _).mono ?_
  rintro e w' ⟨rfl, rfl⟩
  go_wp2_with fail
  refine (C7.out _).mono ?_
  rintro e w' ⟨rfl, rfl⟩
  go_wp2_with fail
  refine (C6.out _).mono ?_
  rintro e w' ⟨rfl, rfl⟩
  go_wp2_with fail
  refine (C6.out _).mono ?_
  rintro e w' ⟨rfl, rfl⟩
  replace hB := bel_drewN hB n1
  obtain ⟨hc, hf⟩ := bel_cells hB
  go_wp2_with fail
  refine (CC.out _).mono ?_
  rintro e w5 ⟨rfl, hb⟩
  replace hB := hB.trans (hb.mono hB.size)
  clear hb hc hf
  obtain ⟨hc, hf⟩ := bel_cells hB
  have k0 : w5.cell? ⟨w.heap.size, 0, none⟩ = some (.int .u8 S) := by rw [hc _ _ (by simp)]; simp
  have k1 : w5.cell? ⟨w.heap.size, 1, none⟩ = some (.bool s) := by rw [hc _ _ (by simp)]; simp
  have k2 : w5.cell? ⟨w.heap.size, 2, none⟩ = some (.int .u32 m) := by rw [hc _ _ (by simp)]; simp
  have k3 : w5.cell? ⟨w.heap.size, 3, none⟩ = some (.int .i64 p) := by rw [hc _ _ (by simp)]; simp
  have HB := Lib.hid hB
  clear hc hf hB
  go_wp2_with fail
  go_region_held3 (fun w' => w'.cell? ⟨w.heap.size, 0, none⟩ = some (.int .u8 S) ∧ w'.cell? ⟨w.heap.size, 1, none⟩ = some (.bool s) ∧ w'.cell? ⟨w.heap.size, 2, none⟩ = some (.int .u32 m) ∧ w'.cell? ⟨w.heap.size, 3, none⟩ = some (.int .i64 p)) (first | go_keep | (go_split_ands; exact ⟨keepc hb1 (by assumption), keepc hb1 (by assumption), keepc hb1 (by assumption), keepc hb1 (by assumption)⟩))
    (first
      | (go_at_call 18; refine (CS.out _).mono ?_; rintro e w1 ⟨rfl, hb1⟩)
      | (go_at_call 39; refine (CA.out _).mono ?_; rintro e w1 ⟨rfl, hb1⟩))
  all_goals
    have hmm : Below w5.heap.size w5 w1 := (by repeat (first | exact Below.refl _ _ | refine bs_alloc ?_ _ | refine bs_drew ?_ | refine bs_drewN ?_ _ | (refine bs_step ?_ (by assumption))))
    go_wp2
    go_ret
    exact ⟨rfl, bel_1 _ _ (HB.out.trans (hmm.mono HB.out.size))⟩

theorem back_law (a : Nat) (ha : a ≤ 4294967295) (S : Int) (s : Bool) (m : Nat) (hm : m ≤ 4294967295) (p : Int) (w : World) :
    Calls Try.prog 11 #[.int .u32 (a : Int), pval S s m p] w (Ret w (.bool true)) := by
  have hbne : ∀ x y : Int, ¬ x = y → (x == y) = false := fun x y h => by rw [beq_eq_false_iff_ne]; exact h
  have hsp : ∀ (v : Nat) (S : Int) (s : Bool) (m p : Int), v ≤ 4294967295 → parD (single.read v) = pval S s m p → ∀ W, Calls Try.prog 18 #[.int .u32 (v : Int)] W (Ret W (pval S s m p)) := fun v S s m p hv h W => by rw [← h]; exact Split_any v hv W
  by_cases h1 : S = 1
  · subst h1
    cases s with
    | true => exact back_no a ha 1 true m p (fun W => join_1_s m p W) w
    | false =>
      by_cases hz : m = 0
      · subst hz
        by_cases hp : p = 0
        · subst hp
          exact back_yes a ha 1 false 0 0 2143289344 (fun W => join_1_ok W) (hsp _ _ _ _ _ (by omega) ((parts_of 2143289344).1 (by decide) (by decide))) w
        · exact back_no a ha 1 false 0 p (fun W => join_1_p p W (by omega)) w
      · exact back_no a ha 1 false m p (fun W => join_1_m m p W (by omega)) w
  by_cases h2 : S = 2
  · subst h2
    by_cases hz : m = 0
    · subst hz
      by_cases hp : p = 0
      · subst hp
        exact back_yes a ha 2 s 0 0 _ (fun W => join_2_ok s W) (hsp _ _ _ _ _ (sg_parts s 2139095040 (by omega)).2.2.2 (parts_inf s)) w
      · exact back_no a ha 2 s 0 p (fun W => join_2_p s p W (by omega)) w
    · exact back_no a ha 2 s m p (fun W => join_2_m s m p W (by omega)) w
  by_cases h3 : S = 3
  · subst h3
    by_cases hu : p < -149
    · exact back_no a ha 3 s m p (fun W => join_3_under s m p W hu) w
    by_cases ho : 104 < p
    · exact back_no a ha 3 s m p (fun W => join_3_over s m p W hu ho) w
    by_cases hl : m < 8388608
    · by_cases hp : p = -149
      · subst hp
        exact back_yes a ha 3 s m (-149) _ (fun W => join_3_low s m W hl) (hsp _ _ _ _ _ (sg_parts s m (by omega)).2.2.2 (parts_low s m hl)) w
      · exact back_no a ha 3 s m p (fun W => join_3_off s m p W hl (by omega) (by omega) (by omega)) w
    by_cases hw : m < 16777216
    · obtain ⟨e, he⟩ : ∃ e : Nat, p + 150 = e := Int.eq_ofNat_of_zero_le (by omega)
      have hj := fun W => join_3_high s m p W (by omega) hw (by omega) (by omega)
      rw [show (p + 150).toNat * 8388608 + (m - 8388608) = e * 8388608 + m % 8388608 from by omega] at hj
      have hpp := parts_high s e (m % 8388608) (by omega) (by omega) (Nat.mod_lt _ (by omega))
      rw [show m % 8388608 + 8388608 = m from by omega, show (e : Int) - 150 = p from by omega] at hpp
      exact back_yes a ha 3 s m p _ hj (hsp _ _ _ _ _ (sg_parts s _ (by omega)).2.2.2 hpp) w
    · exact back_no a ha 3 s m p (fun W => join_3_wide s m p W (by omega) hm (by omega) (by omega)) w
  exact back_no a ha S s m p (fun W => join_other S s m p W (by omega) (hbne _ _ h2) (hbne _ _ h3)) w
end Go.Proofs.Ytllchfdddfmjbaa
