/- Contracts of the reference's Above and Below, joined. -/
import Derived.Test.YtdihbpfoalmlcaaStepA
import Derived.Test.YtdihbpfoalmlcaaSum3
namespace Go.Proofs.Ytdihbpfoalmlcaa
open Go.RowKit Ieee

theorem sgn_false : sgnW false = 0 := rfl
theorem sgn_true : sgnW true = 2147483648 := rfl
theorem high_single : high single = 104 := by decide

theorem aboveW_plus {a : Nat} (h : a % 2147483648 ≤ 2139095040) (h2 : a ≠ 2139095040) (h3 : a % 2147483648 ≠ 0) (h4 : a < 2147483648) : aboveW a = a + 1 := by
  unfold aboveW; rw [if_neg (by omega), if_neg h2, if_neg h3, if_pos h4]
theorem aboveW_minus {a : Nat} (h : a % 2147483648 ≤ 2139095040) (h2 : a ≠ 2139095040) (h3 : a % 2147483648 ≠ 0) (h4 : ¬ a < 2147483648) : aboveW a = a - 1 := by
  unfold aboveW; rw [if_neg (by omega), if_neg h2, if_neg h3, if_neg h4]
theorem aboveW_zero {a : Nat} (h3 : a % 2147483648 = 0) : aboveW a = 1 := by
  unfold aboveW; rw [if_neg (by omega), if_neg (by omega), if_pos h3]

theorem word_low (s : Bool) (m : Nat) (p : Int) (hm : m < 8388608) : wordD (.number s m p) = sgnW s + m := by
  simp only [wordD]; rw [if_pos hm]
theorem word_high (s : Bool) (m : Nat) (p : Int) (hm : ¬ m < 8388608) : wordD (.number s m p) = sgnW s + ((p + 150).toNat * 8388608 + (m - 8388608)) := by
  simp only [wordD]; rw [if_neg hm]
theorem word_inf (s : Bool) : wordD (.infinity s) = sgnW s + 2139095040 := rfl

theorem place_top : ((104 : Int) + 150).toNat = 254 := rfl
theorem place_low : ((-149 : Int) + 150).toNat = 1 := rfl

/-- To the same word by another way. -/
theorem calls_word {f : Nat} {a : Int} {w : World} {x y : Nat} (h : Calls Try.prog f #[.int .u32 a] w (Ret w (.int .u32 (x : Nat)))) (e : x = y) : Calls Try.prog f #[.int .u32 a] w (Ret w (.int .u32 (y : Nat))) := e ▸ h

theorem RefAbove_any (a : Nat) (h : a ≤ 4294967295) (w : World) : Calls Try.prog 23 #[.int .u32 a] w (Ret w (.int .u32 (aboveW a : Nat))) := by
  have hT : ∀ W, Calls Try.prog 46 #[.int .u32 (a : Int)] W (Ret W (encD (single.read a))) := fun W => by
    have := take_any (a : Int) (by omega) (by omega) W
    rw [Int.toNat_natCast] at this
    exact this
  obtain ⟨r1, r2, r3, r4⟩ := read_parts a
  obtain ⟨E, hE⟩ : ∃ E, E = a / 8388608 % 256 := ⟨_, rfl⟩
  obtain ⟨F, hF⟩ : ∃ F, F = a % 8388608 := ⟨_, rfl⟩
  obtain ⟨s, hs⟩ : ∃ s, s = (a / 2147483648 % 2 == 1) := ⟨_, rfl⟩
  rw [← hE] at r1 r2 r3 r4
  rw [← hF] at r1 r2 r3 r4
  rw [← hs] at r2 r3 r4
  have hE2 : E < 256 := by rw [hE]; exact Nat.mod_lt _ (by omega)
  have hF2 : F < 8388608 := by rw [hF]; exact Nat.mod_lt _ (by omega)
  have hr : a % 2147483648 = E * 8388608 + F := by omega
  have hsg : a = sgnW s + (E * 8388608 + F) := by
    cases s
    · have : ¬ (a / 2147483648 % 2 = 1) := by intro h; rw [h] at hs; exact absurd hs (by decide)
      rw [sgn_false]; omega
    · have : a / 2147483648 % 2 = 1 := by rw [← beq_iff_eq]; exact hs.symm
      rw [sgn_true]; omega
  clear hs hE hF
  by_cases hE255 : E = 255
  · by_cases hF0 : F = 0
    · rw [r2 hE255 hF0] at hT
      cases s
      · rw [sgn_false] at hsg
        refine calls_word (above_inf _ hT w) ?_
        rw [word_inf, sgn_false]
        unfold aboveW
        rw [if_neg (by omega), if_pos (by omega)]
        omega
      · rw [sgn_true] at hsg
        refine calls_word (above_short_inf _ (.infinity true) (.number true 16777215 104) 0 0 rfl rfl ⟨by omega, by omega, by omega⟩ hT (fun W => shorter_inf true W) w) ?_
        rewrite [word_high _ _ _ (by omega), sgn_true, aboveW_minus (by omega) (by omega) (by omega) (by omega), place_top]
        omega
    · rw [r1 hE255 hF0] at hT
      have hx : aboveW a = 2143289344 := by unfold aboveW; rw [if_pos (by omega)]
      refine calls_word (above_none _ hT w) ?_
      rw [hx]
      simp only [wordD]
  · by_cases hE0 : E = 0
    · rw [r3 hE0] at hT
      by_cases hF0 : F = 0
      · subst hF0
        rw [aboveW_zero (by omega)]
        cases s
        · refine calls_word (above_zero_plus _ (-149) ⟨by omega, by omega⟩ hT w) ?_
          rw [word_low _ _ _ (by omega), sgn_false]
        · refine calls_word (above_zero_minus _ (-149) ⟨by omega, by omega⟩ hT w) ?_
          rw [word_low _ _ _ (by omega), sgn_false]
      · cases s
        · rw [sgn_false] at hsg
          refine calls_word (above_long _ (.number false (F + 1) (-149)) F (-149) (by omega) ⟨by omega, by omega, by omega⟩ hT
            (fun W => longer_low false F (F + 1) (-149) (by omega) (decide_eq_true (by omega)) (IntWalk.u64_in _ ⟨by omega, by omega⟩) W) w) ?_
          rw [aboveW_plus (by omega) (by omega) (by omega) (by omega)]
          by_cases hl : F + 1 < 8388608
          · rw [word_low _ _ _ hl, sgn_false]; omega
          · rewrite [word_high _ _ _ hl, sgn_false, place_low]; omega
        · rw [sgn_true] at hsg
          refine calls_word (above_short_num _ (.number true F (-149)) (.number true (F - 1) (-149)) F (-149) rfl (by unfold Datum.isZero; cases F with | zero => omega | succ m => rfl) ⟨by omega, by omega, by omega⟩ hT
            (fun W => shorter_low true F (-149) (by omega) (by omega) (by rw [beq_eq_false_iff_ne]; omega) W) w) ?_
          rw [aboveW_minus (by omega) (by omega) (by omega) (by omega), word_low _ _ _ (by omega), sgn_true]
          omega
    · rw [r4 hE0 hE255] at hT
      obtain ⟨p, hp⟩ : ∃ p : Int, p = -149 + (E : Int) - 1 := ⟨_, rfl⟩
      rw [← hp] at hT
      obtain ⟨m, hm⟩ : ∃ m, m = F + 8388608 := ⟨_, rfl⟩
      rw [← hm] at hT
      cases s
      · rw [sgn_false] at hsg
        rw [aboveW_plus (by omega) (by omega) (by omega) (by omega)]
        by_cases hl : m + 1 < 16777216
        · refine calls_word (above_long _ (.number false (m + 1) p) m p (by omega) ⟨by omega, by omega, by omega⟩ hT
            (fun W => longer_low false m (m + 1) p (by omega) (decide_eq_true (by omega)) (IntWalk.u64_in _ ⟨by omega, by omega⟩) W) w) ?_
          rewrite [word_high _ _ _ (by omega), sgn_false]
          omega
        · have hm2 : m = 16777215 := by omega
          rw [hm2] at hT
          refine calls_word (above_long _ (heldD single false 8388608 (p + 1)) 16777215 p (by omega) ?_ hT (fun W => longer_high false p (by omega) (by omega) W) w) ?_
          · unfold heldD
            rw [high_single]
            split
            · trivial
            · exact ⟨by omega, by omega, by omega⟩
          · unfold heldD
            rw [high_single]
            split
            · rw [word_inf, sgn_false]; omega
            · rewrite [word_high _ _ _ (by omega), sgn_false]; omega
      · rw [sgn_true] at hsg
        have hz : (Datum.number true m p).isZero = false := by unfold Datum.isZero; cases m with | zero => omega | succ m => rfl
        rw [aboveW_minus (by omega) (by omega) (by omega) (by omega)]
        by_cases hl : m = 8388608
        · rw [hl] at hT hz
          by_cases hl2 : -149 < p
          · refine calls_word (above_short_num _ _ (.number true 16777215 (p - 1)) 8388608 p rfl hz ⟨by omega, by omega, by omega⟩ hT (fun W => shorter_step true p hl2 (by omega) W) w) ?_
            rewrite [word_high _ _ _ (by omega), sgn_true]
            omega
          · have hp2 : p = -149 := by omega
            rw [hp2] at hT hz
            refine calls_word (above_short_num _ _ (.number true 8388607 (-149)) 8388608 (-149) rfl hz ⟨by omega, by omega, by omega⟩ hT (fun W => shorter_least true W) w) ?_
            rewrite [word_low _ _ _ (by omega), sgn_true]
            omega
        · refine calls_word (above_short_num _ _ (.number true (m - 1) p) m p rfl hz ⟨by omega, by omega, by omega⟩ hT
            (fun W => shorter_low true m p (by omega) (by omega) (by rw [beq_eq_false_iff_ne]; omega) W) w) ?_
          rewrite [word_high _ _ _ (by omega), sgn_true]
          omega
end Go.Proofs.Ytdihbpfoalmlcaa
