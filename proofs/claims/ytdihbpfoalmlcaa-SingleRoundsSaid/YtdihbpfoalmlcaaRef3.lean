/- Contracts of the reference: a word of binary32 taken as a value, and a value laid down as a word. -/
import Derived.Test.YtdihbpfoalmlcaaRef2
import Derived.Deep.RegionHeld3
namespace Go.Proofs.Ytdihbpfoalmlcaa
open Go.RowKit Ieee

theorem encD_form (d : Datum) : ∃ (s : Int) (m : Bool) (n : Nat) (p : Int), encD d = val s m n p := by
  cases d with
  | number s m p => exact ⟨3, s, m, p, rfl⟩
  | infinity s => exact ⟨2, s, 0, 0, rfl⟩
  | nan _ _ => exact ⟨1, false, 0, 0, rfl⟩

theorem bel_one (w : World) (o : Obj) {w1 : World} (h : Below (w.alloc o).heap.size (w.alloc o) w1) : Below w.heap.size w w1 :=
  ((Below.refl _ _).alloc (Nat.le_refl _) _).trans (h.mono (by simp))

theorem take_any (a : Int) (h0 : 0 ≤ a) (ha : a ≤ 4294967295) (w : World) : Calls Try.prog 46 #[.int .u32 a] w (Ret w (encD (single.read a.toNat))) := by
  obtain ⟨x, rfl⟩ := Int.eq_ofNat_of_zero_le h0
  rw [Int.toNat_natCast]
  have hx : x ≤ 4294967295 := by omega
  obtain ⟨s, m, n, p, hd⟩ := encD_form (single.read x)
  have ho := fun W => open_any x hx W
  rw [hd] at ho ⊢
  have HO := Lib.hid ho
  clear ho hd
  go_enter Try.func46, Try.ntmps46
  go_wp2_with fail
  refine (single_form _).mono ?_
  rintro e w1 ⟨rfl, hB⟩
  obtain ⟨hc, hf⟩ := bel_cells hB
  go_wp2_with fail
  refine (HO.out _).mono ?_
  rintro e w2 ⟨rfl, hb⟩
  replace hB := hB.trans (hb.mono hB.size)
  clear hb hc hf
  obtain ⟨hc, hf⟩ := bel_cells hB
  unfold val
  go_wp2
  exact bodyPost_ret (v := val s m n p) (by simp [results, Try.results46, go_sem, hc, val]) rfl ⟨rfl, bel_set4 (bel_one _ _ hB) (Nat.le_refl _) _ _ _ _⟩

theorem or_add (i x y : Nat) (hx : x % 2 ^ i = 0) (hy : y < 2 ^ i) (h : x + y < 18446744073709551616) : bits .or .u64 (x : Int) (y : Int) = ((x + y : Nat) : Int) := by
  rw [u64_or_nat _ _ (by omega) (by omega), nat_join i _ _ hx hy]

theorem shut_or (g m e : Nat) (hg : g = 0 ∨ g = 2147483648) (hm : 8388608 ≤ m) (hm2 : m < 16777216) (he : e ≤ 253) (G : Int) (hG : G = (g : Int)) :
    bits .or .u64 (bits .or .u64 G ((-149 + (e : Int) + 149 + 1) * 8388608)) ((m : Int) - 8388608) = ((g + ((e + 1) * 8388608 + (m - 8388608)) : Nat) : Int) := by
  subst hG
  have e1 : ((-149 + (e : Int) + 149 + 1) * 8388608) = (((e + 1) * 8388608 : Nat) : Int) := by omega
  have e2 : ((m : Int) - 8388608) = ((m - 8388608 : Nat) : Int) := by omega
  rw [e1, e2]
  have h1 : bits .or .u64 (g : Int) (((e + 1) * 8388608 : Nat) : Int) = ((g + (e + 1) * 8388608 : Nat) : Int) := by
    refine or_add 31 _ _ ?_ (by omega) (by omega)
    rcases hg with rfl | rfl <;> decide
  rw [h1, or_add 23 _ _ (by omega) (by omega) (by omega), Nat.add_assoc]

/-- The sign's bit. -/
def sgnW (s : Bool) : Nat := if s then 2147483648 else 0

/-- The word of a datum of binary32. -/
def wordD : Datum → Nat
  | .number s m p => sgnW s + (if m < 8388608 then m else (p + 150).toNat * 8388608 + (m - 8388608))
  | .infinity s => sgnW s + 2139095040
  | .nan _ _ => 2143289344

/-- A datum that binary32 has. -/
def Can : Datum → Prop
  | .number _ m p => m < 16777216 ∧ -149 ≤ p ∧ p ≤ 104
  | _ => True

set_option maxHeartbeats 1000000 in
theorem shut_low (s : Bool) (m : Nat) (p : Int) (hm : m < 8388608) (w : World) :
    Calls Try.prog 66 #[frm, val 3 s m p] w (Ret w (.int .u64 (sgnW s + m : Nat))) := by
  have hd : decide ((m : Int) < 8388608) = true := by simp; omega
  cases s
  · have o0 : bits .or .u64 0 (m : Int) = (m : Int) := by have h := or_add 23 0 m (by decide) hm (by omega); rw [Nat.zero_add] at h; exact h
    have HR := Lib.hid (show ((sgnW false + m : Nat) : Int) = (m : Int) from by unfold sgnW; simp)
    rw [HR.out]
    unfold frm val
    go_enter Try.func66, Try.ntmps66
    go_wp2_with fail
    go_ret
    exact ⟨rfl, (((Below.refl _ _).alloc (Nat.le_refl _) _).alloc (by simp) _)⟩
  · have o1 : bits .or .u64 2147483648 (m : Int) = ((2147483648 + m : Nat) : Int) := or_add 23 2147483648 m (by decide) hm (by omega)
    have HR := Lib.hid (show ((sgnW true + m : Nat) : Int) = ((2147483648 + m : Nat) : Int) from by unfold sgnW; simp)
    rw [HR.out]
    unfold frm val
    go_enter Try.func66, Try.ntmps66
    go_wp2_with (first
      | (go_at_call 85; refine (bitsOf_255 _).mono ?_; rintro e w' ⟨rfl, rfl⟩)
      | (go_at_call 86; refine (most_any _).mono ?_; rintro e w1 ⟨rfl, hb1⟩; (first | replace hB := hB.trans (hb1.mono hB.size) | have hB := hb1); clear hb1; (try clear hc1 hf1); obtain ⟨hc1, hf1⟩ := bel_cells hB))
    go_ret
    exact ⟨ret_of (u64_eq (by omega)), bel_two _ _ _ hB⟩

set_option maxHeartbeats 1000000 in
theorem shut_high (s : Bool) (m e : Nat) (hm : 8388608 ≤ m) (hm2 : m < 16777216) (he : e ≤ 253) (w : World) :
    Calls Try.prog 66 #[frm, val 3 s m (-149 + e)] w (Ret w (.int .u64 (sgnW s + ((e + 1) * 8388608 + (m - 8388608)) : Nat))) := by
  have hd : decide ((m : Int) < 8388608) = false := by simp; omega
  cases s
  · unfold frm val
    go_enter Try.func66, Try.ntmps66
    go_wp2_with fail
    go_ret
    refine ⟨ret_of (u64_eq ?_), (((Below.refl _ _).alloc (Nat.le_refl _) _).alloc (by simp) _)⟩
    exact shut_or 0 m e (.inl rfl) hm hm2 he 0 rfl
  · unfold frm val
    go_enter Try.func66, Try.ntmps66
    go_wp2_with (first
      | (go_at_call 85; refine (bitsOf_255 _).mono ?_; rintro e w' ⟨rfl, rfl⟩)
      | (go_at_call 86; refine (most_any _).mono ?_; rintro e w1 ⟨rfl, hb1⟩; (first | replace hB := hB.trans (hb1.mono hB.size) | have hB := hb1); clear hb1; (try clear hc1 hf1); obtain ⟨hc1, hf1⟩ := bel_cells hB))
    go_ret
    refine ⟨ret_of (u64_eq ?_), bel_two _ _ _ hB⟩
    exact shut_or 2147483648 m e (.inr rfl) hm hm2 he 2147483648 rfl

theorem shut_inf (s : Bool) (w : World) :
    Calls Try.prog 66 #[frm, val 2 s 0 0] w (Ret w (.int .u64 (sgnW s + 2139095040 : Nat))) := by
  cases s
  · have o1 : bits .or .u64 0 2139095040 = 2139095040 := by decide
    unfold frm val
    go_enter Try.func66, Try.ntmps66
    go_wp2_with (first
      | (go_at_call 85; refine (bitsOf_255 _).mono ?_; rintro e w' ⟨rfl, rfl⟩)
      | (go_at_call 86; refine (most_any _).mono ?_; rintro e w1 ⟨rfl, hb1⟩; (first | replace hB := hB.trans (hb1.mono hB.size) | have hB := hb1); clear hb1; (try clear hc1 hf1); obtain ⟨hc1, hf1⟩ := bel_cells hB))
    go_ret
    exact ⟨ret_of (u64_eq (by decide)), bel_two _ _ _ hB⟩
  · have o1 : bits .or .u64 2147483648 2139095040 = 4286578688 := by decide
    unfold frm val
    go_enter Try.func66, Try.ntmps66
    go_wp2_with (first
      | (go_at_call 85; refine (bitsOf_255 _).mono ?_; rintro e w' ⟨rfl, rfl⟩)
      | (go_at_call 86; refine (most_any _).mono ?_; rintro e w1 ⟨rfl, hb1⟩; (first | replace hB := hB.trans (hb1.mono hB.size) | have hB := hb1); clear hb1; (try clear hc1 hf1); obtain ⟨hc1, hf1⟩ := bel_cells hB))
    go_ret
    exact ⟨ret_of (u64_eq (by decide)), bel_two _ _ _ hB⟩

theorem shut_none (w : World) :
    Calls Try.prog 66 #[frm, val 1 false 0 0] w (Ret w (.int .u64 2143289344)) := by
  have o1 : bits .or .u64 2139095040 4194304 = 2143289344 := by decide
  unfold frm val
  go_enter Try.func66, Try.ntmps66
  go_wp2_with (first
    | (go_at_call 85; refine (bitsOf_255 _).mono ?_; rintro e w' ⟨rfl, rfl⟩)
    | (go_at_call 86; refine (most_any _).mono ?_; rintro e w1 ⟨rfl, hb1⟩; (first | replace hB := hB.trans (hb1.mono hB.size) | have hB := hb1); clear hb1; (try clear hc1 hf1); obtain ⟨hc1, hf1⟩ := bel_cells hB))
  go_ret
  exact ⟨rfl, bel_two _ _ _ hB⟩

theorem shut_any (d : Datum) (hd : Can d) (w : World) : Calls Try.prog 66 #[frm, encD d] w (Ret w (.int .u64 (wordD d : Nat))) := by
  cases d with
  | nan _ _ => exact shut_none w
  | infinity s => exact shut_inf s w
  | number s m p =>
    obtain ⟨hm, hp, hp2⟩ := hd
    simp only [wordD]
    by_cases h : m < 8388608
    · rw [if_pos h]; exact shut_low s m p h w
    · rw [if_neg h]
      obtain ⟨e, rfl⟩ : ∃ e : Nat, p = -149 + e := ⟨(p + 149).toNat, by omega⟩
      rw [show ((-149 : Int) + (e : Int) + 150).toNat = e + 1 from by omega]
      exact shut_high s m e (by omega) hm (by omega) w

theorem wordD_lt (d : Datum) (hd : Can d) : wordD d ≤ 4294967295 := by
  cases d with
  | nan _ _ => simp only [wordD]; omega
  | infinity s =>
    have h1 : sgnW s ≤ 2147483648 := by unfold sgnW; split <;> omega
    simp only [wordD]
    omega
  | number s m p =>
    obtain ⟨hm, hp, hp2⟩ := hd
    have h1 : sgnW s ≤ 2147483648 := by unfold sgnW; split <;> omega
    simp only [wordD]
    split <;> omega

/-- lay: the word of a value. -/
theorem lay_any (d : Datum) (hd : Can d) (w : World) : Calls Try.prog 43 #[encD d] w (Ret w (.int .u32 (wordD d : Nat))) := by
  have hl := wordD_lt d hd
  have hs := fun W => shut_any d hd W
  obtain ⟨s, m, n, p, he⟩ := encD_form d
  rw [he] at hs ⊢
  have HS := Lib.hid hs
  clear hs he hd
  unfold val
  go_enter Try.func43, Try.ntmps43
  go_wp2
  go_region_held3 (fun w' => w'.cell? ⟨w.heap.size, 0, none⟩ = some (.int .u8 s) ∧ w'.cell? ⟨w.heap.size, 1, none⟩ = some (.bool m) ∧ w'.cell? ⟨w.heap.size, 2, none⟩ = some (.int .u64 n) ∧ w'.cell? ⟨w.heap.size, 3, none⟩ = some (.int .i64 p))
    (first | go_keep | (go_split_ands; exact ⟨keepc hb1 (by assumption), keepc hb1 (by assumption), keepc hb1 (by assumption), keepc hb1 (by assumption)⟩))
    (first
      | (go_at_call 45; refine (single_form _).mono ?_; rintro e w1 ⟨rfl, hb1⟩)
      | (go_at_call 66; refine (HS.out _).mono ?_; rintro e w1 ⟨rfl, hb1⟩))
  go_wp2
  go_ret
  refine ⟨ret_of (u32_eq (IntWalk.u32_in _ (by omega))), ?_⟩
  repeat (first | exact Below.refl _ _ | refine bs_alloc ?_ _ | refine bs_drew ?_ | (refine bs_step ?_ (by assumption)))
end Go.Proofs.Ytdihbpfoalmlcaa
