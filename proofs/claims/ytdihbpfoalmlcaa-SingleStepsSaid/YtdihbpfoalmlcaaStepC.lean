/- Contract of the reference's Below. -/
import Derived.Test.YtdihbpfoalmlcaaStepB
namespace Go.Proofs.Ytdihbpfoalmlcaa
open Go.RowKit Ieee

theorem nan_word (a : Nat) : (single.read a).isNaN = decide (2139095040 < a % 2147483648) := by
  rw [isNaN_read single (by decide), single_sign, single_inf]

theorem word_turn (s : Bool) (r : Nat) (hr : r < 2147483648) : sgnW (!s) + r = turnW (sgnW s + r) := by
  unfold turnW
  cases s
  · rw [Bool.not_false, sgn_false, sgn_true]
    rw [if_pos (by omega)]
    omega
  · rw [Bool.not_true, sgn_false, sgn_true]
    rw [if_neg (by omega)]
    omega

theorem num_lt (m : Nat) (p : Int) (h : Can (.number false m p)) : (if m < 8388608 then m else (p + 150).toNat * 8388608 + (m - 8388608)) < 2147483648 := by
  obtain ⟨h1, h2, h3⟩ := h
  split <;> omega

theorem word_opposite (d : Datum) (hd : Can d) (hn : d.isNaN = false) : wordD d.opposite = turnW (wordD d) := by
  cases d with
  | number s m p =>
    have := num_lt m p hd
    simp only [Datum.opposite, wordD]
    exact word_turn s _ this
  | infinity s =>
    simp only [Datum.opposite, wordD]
    exact word_turn s _ (by omega)
  | nan s t => exact absurd hn (by simp [Datum.isNaN])

theorem word_flip (a : Nat) (ha : a ≤ 4294967295) : wordD (single.read a).opposite = if 2139095040 < a % 2147483648 then 2143289344 else turnW a := by
  have hw := wordD_read a (by omega)
  unfold clean at hw
  have hn := nan_word a
  by_cases h : 2139095040 < a % 2147483648
  · rw [if_pos h]
    rw [decide_eq_true h] at hn
    cases hd : single.read a with
    | number s m p => rw [hd] at hn; exact absurd hn (by simp [Datum.isNaN])
    | infinity s => rw [hd] at hn; exact absurd hn (by simp [Datum.isNaN])
    | nan s t => rfl
  · rw [if_neg h]
    rw [decide_eq_false h] at hn
    rw [word_opposite _ (can_read a) hn, hw, hn]
    rfl

theorem turn_mod (a : Nat) (h : a ≤ 4294967295) : turnW a % 2147483648 = a % 2147483648 := by
  unfold turnW; split <;> omega
theorem above_mod (a : Nat) (h : a ≤ 4294967295) (hn : ¬ 2139095040 < a % 2147483648) : ¬ 2139095040 < aboveW a % 2147483648 := by
  unfold aboveW
  rw [if_neg hn]
  split
  · omega
  · split
    · omega
    · split <;> omega

theorem below_word (a b : Nat) (h : a ≤ 4294967295) (hb : b = wordD (single.read a).opposite) : wordD (single.read (aboveW b)).opposite = belowW a := by
  have hb2 : b ≤ 4294967295 := by rw [hb]; exact wordD_lt _ (can_opposite _ (can_read _))
  rw [word_flip a h] at hb
  rw [word_flip _ (aboveW_lt hb2)]
  unfold belowW
  by_cases hn : 2139095040 < a % 2147483648
  · rw [if_pos hn] at hb ⊢
    have hx : aboveW b = 2143289344 := by unfold aboveW; rw [hb]; rw [if_pos (by omega)]
    rw [hx]
    rw [if_pos (by omega)]
  · rw [if_neg hn] at hb ⊢
    rw [hb]
    rw [if_neg (above_mod _ (by have := turnW_lt h; omega) (by rw [turn_mod a h]; exact hn))]

theorem RefBelow_any (a : Nat) (h : a ≤ 4294967295) (w : World) : Calls Try.prog 25 #[.int .u32 a] w (Ret w (.int .u32 (belowW a : Nat))) := by
  obtain ⟨b, hb⟩ : ∃ b, b = wordD (single.read a).opposite := ⟨_, rfl⟩
  have hb2 : b ≤ 4294967295 := by rw [hb]; exact wordD_lt _ (can_opposite _ (can_read _))
  have hc2 := aboveW_lt hb2
  have HE := Lib.hid (below_word a b h hb)
  have HA := Lib.hid (fun W => RefAbove_any b hb2 W)
  have HT := Lib.hid (fun W => take_any (a : Int) (by omega) (by omega) W)
  have HT2 := Lib.hid (fun W => take_any ((aboveW b : Nat) : Int) (by omega) (by omega) W)
  have HL := Lib.hid (fun W => lay_any (single.read a).opposite (can_opposite _ (can_read _)) W)
  have HL2 := Lib.hid (fun W => lay_any (single.read (aboveW b)).opposite (can_opposite _ (can_read _)) W)
  rw [Int.toNat_natCast] at HT HT2
  rw [← hb] at HL
  rw [HE.out] at HL2
  clear hb hb2 hc2 HE
  go_enter Try.func25, Try.ntmps25
  go_wp2_with fail
  refine (HT.out _).mono ?_
  rintro e w1 ⟨rfl, hb1⟩
  go_wp2_with fail
  refine (flip_any _ _).mono ?_
  rintro e w2 ⟨rfl, hb2⟩
  go_wp2_with fail
  refine (HL.out _).mono ?_
  rintro e w3 ⟨rfl, hb3⟩
  go_wp2_with fail
  refine (HA.out _).mono ?_
  rintro e w4 ⟨rfl, hb4⟩
  go_wp2_with fail
  refine (HT2.out _).mono ?_
  rintro e w5 ⟨rfl, hb5⟩
  go_wp2_with fail
  refine (flip_any _ _).mono ?_
  rintro e w6 ⟨rfl, hb6⟩
  go_wp2_with fail
  refine (HL2.out _).mono ?_
  rintro e w7 ⟨rfl, hb7⟩
  go_wp2
  go_ret
  exact ⟨rfl, bs_step (bs_step (bs_step (bs_step (bs_step (bs_step hb1 hb2) hb3) hb4) hb5) hb6) hb7⟩
end Go.Proofs.Ytdihbpfoalmlcaa
