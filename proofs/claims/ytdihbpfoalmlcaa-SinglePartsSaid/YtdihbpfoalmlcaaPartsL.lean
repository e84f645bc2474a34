/- SingleParts at parts whose word both sides tell. -/
import Derived.Test.YtdihbpfoalmlcaaRefJoin
namespace Go.Proofs.Ytdihbpfoalmlcaa
open Go.RowKit Ieee
set_option linter.unusedVariables false

theorem parD_form (d : Datum) : ∃ (s : Int) (m : Bool) (n p : Int), parD d = pval s m n p := by
  cases d with
  | number s m p => exact ⟨3, s, m, p, rfl⟩
  | infinity s => exact ⟨2, s, 0, 0, rfl⟩
  | nan _ _ => exact ⟨1, false, 0, 0, rfl⟩

set_option maxHeartbeats 1000000 in
theorem parts_core (a : Nat) (ha : a ≤ 4294967295) (S : Int) (s : Bool) (m p x e : Int)
    (h1 : ∀ W, Calls Try.prog 35 #[pval S s m p] W (Ret W (.tuple #[.int .u32 x, .int .i64 e])))
    (h2 : ∀ W, Calls Try.prog 36 #[pval S s m p] W (Ret W (.tuple #[.int .u32 x, .int .i64 e]))) (w : World) :
    Calls Try.prog 9 #[.int .u32 (a : Int), pval S s m p] w (Ret w (.bool true)) := by
  have c1 := fun W => Split_any a ha W
  have c2 := fun W => RefSplit_any a ha W
  obtain ⟨q0, q1, q2, q3, hq⟩ := parD_form (single.read a)
  rw [hq] at c1 c2
  have c3 := fun W => alike_same q0 q1 q2 q3 W
  clear hq
  unfold pval at c1 c2 c3 h1 h2 ⊢
  have C1 := Lib.hid c1
  have C2 := Lib.hid c2
  have C3 := Lib.hid c3
  have H1 := Lib.hid h1
  have H2 := Lib.hid h2
  clear c1 c2 c3 h1 h2
  go_enter Try.func9, Try.ntmps9
  go_wp2_with fail
  refine (C1.out _).mono ?_
  rintro e w1 ⟨rfl, hB⟩
  go_wp2_with fail
  refine (C2.out _).mono ?_
  rintro e w2 ⟨rfl, hb⟩
  replace hB := hB.trans (hb.mono hB.size)
  clear hb
  go_wp2_with fail
  refine (C3.out _).mono ?_
  rintro e w3 ⟨rfl, hb⟩
  replace hB := hB.trans (hb.mono hB.size)
  clear hb
  obtain ⟨hc, hf⟩ := bel_cells hB
  go_wp2_with fail
  refine (H1.out _).mono ?_
  rintro e w4 ⟨rfl, hb⟩
  replace hB := hB.trans (hb.mono hB.size)
  clear hb hc hf
  obtain ⟨hc, hf⟩ := bel_cells hB
  go_wp2_with fail
  refine (H2.out _).mono ?_
  rintro e w5 ⟨rfl, hb⟩
  replace hB := hB.trans (hb.mono hB.size)
  clear hb hc hf
  go_wp2
  go_ret
  exact ⟨by simp, bel_1 _ _ hB⟩

theorem ne_facts {x y : Int} (h : ¬ x = y) : ¬ x = y ∧ (x == y) = false ∧ (x != y) = true := ⟨h, by rw [beq_eq_false_iff_ne]; exact h, by rw [bne_iff_ne]; exact h⟩

theorem parts_law (a : Nat) (ha : a ≤ 4294967295) (S : Int) (s : Bool) (m : Nat) (hm : m ≤ 4294967295) (p : Int) (w : World) :
    Calls Try.prog 9 #[.int .u32 (a : Int), pval S s m p] w (Ret w (.bool true)) := by
  have hbne : ∀ x y : Int, ¬ x = y → (x == y) = false := fun x y h => (ne_facts h).2.1
  by_cases h1 : S = 1
  · subst h1
    cases s with
    | true => exact parts_core a ha 1 true m p 0 30 (fun W => join_1_s m p W) (fun W => rjoin_1_s m p W) w
    | false =>
      by_cases hz : m = 0
      · subst hz
        by_cases hp : p = 0
        · subst hp
          exact parts_core a ha 1 false 0 0 2143289344 0 (fun W => join_1_ok W) (fun W => rjoin_1_ok W) w
        · obtain ⟨f1, f2, f3⟩ := ne_facts (show ¬ (0 : Int) = p by omega)
          exact parts_core a ha 1 false 0 p 0 30 (fun W => join_1_p p W f1) (fun W => rjoin_1_p p f1 f2 f3 W) w
      · obtain ⟨f1, f2, f3⟩ := ne_facts (show ¬ (0 : Int) = (m : Int) by omega)
        exact parts_core a ha 1 false m p 0 30 (fun W => join_1_m m p W f1) (fun W => rjoin_1_m m p f1 f2 f3 W) w
  by_cases h2 : S = 2
  · subst h2
    by_cases hz : m = 0
    · subst hz
      by_cases hp : p = 0
      · subst hp
        exact parts_core a ha 2 s 0 0 _ 0 (fun W => join_2_ok s W) (fun W => rjoin_2_ok s W) w
      · obtain ⟨f1, f2, f3⟩ := ne_facts (show ¬ (0 : Int) = p by omega)
        exact parts_core a ha 2 s 0 p 0 30 (fun W => join_2_p s p W f1) (fun W => rjoin_2_p s p f1 f2 f3 W) w
    · obtain ⟨f1, f2, f3⟩ := ne_facts (show ¬ (0 : Int) = (m : Int) by omega)
      exact parts_core a ha 2 s m p 0 30 (fun W => join_2_m s m p W f1) (fun W => rjoin_2_m s m p f1 f2 f3 W) w
  by_cases h3 : S = 3
  · subst h3
    by_cases hu : p < -149
    · by_cases hw : m < 16777216
      · exact parts_core a ha 3 s m p 0 30 (fun W => join_3_under s m p W hu) (fun W => rjoin_3_under s m p hw hu W) w
      · exact parts_core a ha 3 s m p 0 30 (fun W => join_3_under s m p W hu) (fun W => rjoin_3_wide s m p (by omega) W) w
    by_cases ho : 104 < p
    · by_cases hw : m < 16777216
      · exact parts_core a ha 3 s m p 0 30 (fun W => join_3_over s m p W hu ho) (fun W => rjoin_3_over s m p hw hu ho W) w
      · exact parts_core a ha 3 s m p 0 30 (fun W => join_3_over s m p W hu ho) (fun W => rjoin_3_wide s m p (by omega) W) w
    by_cases hl : m < 8388608
    · by_cases hp : p = -149
      · subst hp
        exact parts_core a ha 3 s m (-149) _ 0 (fun W => join_3_low s m W hl) (fun W => rjoin_3_low s m hl W) w
      · obtain ⟨f1, f2, f3⟩ := ne_facts (show ¬ (-149 : Int) = p by omega)
        exact parts_core a ha 3 s m p 0 30 (fun W => join_3_off s m p W hl (by omega) (by omega) f1) (fun W => rjoin_3_off s m p hl (by omega) (by omega) f1 f2 f3 W) w
    by_cases hw : m < 16777216
    · obtain ⟨e, he⟩ : ∃ e : Nat, p + 150 = e := Int.eq_ofNat_of_zero_le (by omega)
      have hj := fun W => join_3_high s m p W (by omega) hw (by omega) (by omega)
      rw [show (p + 150).toNat * 8388608 + (m - 8388608) = e * 8388608 + m % 8388608 from by omega] at hj
      exact parts_core a ha 3 s m p _ 0 hj (fun W => rjoin_3_high s m e p (by omega) hw (by omega) (by omega) he W) w
    · exact parts_core a ha 3 s m p 0 30 (fun W => join_3_wide s m p W (by omega) hm (by omega) (by omega)) (fun W => rjoin_3_wide s m p (by omega) W) w
  exact parts_core a ha S s m p 0 30 (fun W => join_other S s m p W (by omega) (hbne _ _ h2) (hbne _ _ h3)) (fun W => rjoin_other S s m p (hbne _ _ h1) (hbne _ _ h2) (hbne _ _ h3) W) w
end Go.Proofs.Ytdihbpfoalmlcaa
