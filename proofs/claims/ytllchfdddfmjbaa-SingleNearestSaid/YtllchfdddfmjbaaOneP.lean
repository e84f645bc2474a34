/- Plain law: the one NaN. -/
import Derived.Test.YtllchfdddfmjbaaKey
import Derived.Test.YtllchfdddfmjbaaOne
namespace Go.Proofs.Ytllchfdddfmjbaa
open Go.RowKit Ieee

/-- A word of no number but the one NaN never comes out. -/
def CleanN (a : Nat) : Prop := a = 2143289344 ∨ ¬ NoNum a

theorem clean_any (a : Nat) (ha : a ≤ 4294967295) (h : CleanN a) (w : World) : Calls Try.prog 37 #[.int .u32 (a : Int)] w fun e w' => e = .returned (.bool true) ∧ w = w' := by
  by_cases h0 : a = 2143289344
  · subst h0
    clear h ha
    go_enter Try.func37, Try.ntmps37
    go_wp2
    go_ret
    exact ⟨rfl, rfl⟩
  · have hn : ¬ NoNum a := h.resolve_left h0
    have i1 := Lib.hid (fun W => isNone_any a ha false (decide_eq_false (show ¬ 2139095040 < a % 2147483648 from hn)) W)
    have hb : ((a : Int) == 2143289344) = false := by rw [beq_eq_false_iff_ne]; omega
    clear h h0 hn ha
    go_enter Try.func37, Try.ntmps37
    go_wp2_with fail
    refine (i1.out _).mono ?_
    rintro e w' ⟨rfl, rfl⟩
    go_wp2
    go_ret
    exact ⟨rfl, rfl⟩

theorem noNum_iff (a : Nat) : NoNum a ↔ (single.read a).isNaN = true := by
  rw [isNaN_read single (by decide), single_inf, single_sign, decide_eq_true_eq]; exact Iff.rfl
theorem clean_res (o : Option Datum) (ho : ∀ d, o = some d → d.isNaN = false) : CleanN ((o.map single.write).getD oneNaN) := by
  cases o with
  | none => exact .inl rfl
  | some d =>
    right
    rw [noNum_iff]
    show ¬ (single.read (single.write d)).isNaN = true
    rw [write_notNaN single (by decide) d (ho d rfl)]
    exact Bool.false_ne_true
theorem clean_above (a : Nat) (ha : a ≤ 4294967295) : CleanN (aboveW a) := by
  by_cases na : NoNum a
  · left; unfold aboveW; rw [if_pos (show 2139095040 < a % 2147483648 from na)]
  · by_cases hi : a = 2139095040
    · subst hi; right; unfold NoNum; decide
    · exact .inr (above_key a ha na hi).1
theorem clean_below (a : Nat) (ha : a ≤ 4294967295) : CleanN (belowW a) := by
  by_cases na : NoNum a
  · left; unfold belowW; rw [if_pos (show 2139095040 < a % 2147483648 from na)]
  · by_cases hi : a = 4286578688
    · subst hi; right; unfold NoNum; decide
    · exact .inr (below_key a ha na hi).1

/-- Two data that are the same, or both no number. -/
def Alike (d e : Datum) : Prop := d = e ∨ (d.isNaN = true ∧ e.isNaN = true)
theorem read_one (a : Nat) : Alike (single.read (oneW a)) (single.read a) := by
  unfold oneW
  by_cases h : 2139095040 < a % 2147483648
  · rw [if_pos h]; exact .inr ⟨by decide, (noNum_iff a).1 h⟩
  · rw [if_neg h]; exact .inl rfl
theorem isNaN_form {d : Datum} (h : d.isNaN = true) : ∃ s t, d = .nan s t := by
  cases d with
  | nan s t => exact ⟨s, t, rfl⟩
  | number s m p => cases h
  | infinity s => cases h
theorem opp_same {d e : Datum} (h : Alike d e) : Alike d.opposite e.opposite := by
  rcases h with rfl | ⟨h1, h2⟩
  · exact .inl rfl
  · obtain ⟨s, t, rfl⟩ := isNaN_form h1
    obtain ⟨s', t', rfl⟩ := isNaN_form h2
    exact .inr ⟨rfl, rfl⟩
theorem sum_nan_left (s : Bool) (t : Nat) (e : Datum) : (Datum.nan s t).sum e = none := by cases e <;> rfl
theorem sum_nan_right (s : Bool) (t : Nat) (e : Datum) : e.sum (Datum.nan s t) = none := by cases e <;> rfl
theorem product_nan_left' (s : Bool) (t : Nat) (e : Datum) : (Datum.nan s t).product e = none := by cases e <;> rfl
theorem product_nan_right' (s : Bool) (t : Nat) (e : Datum) : e.product (Datum.nan s t) = none := by cases e <;> rfl
theorem quotient_nan_left' (k : Nat) (s : Bool) (t : Nat) (e : Datum) : (Datum.nan s t).quotient k e = none := by cases e <;> rfl
theorem quotient_nan_right' (k : Nat) (s : Bool) (t : Nat) (e : Datum) : e.quotient k (Datum.nan s t) = none := by cases e <;> rfl
theorem sum_noNaN (d e d' e' : Datum) (h1 : Alike d d') (h2 : Alike e e') : d.sum e = d'.sum e' := by
  rcases h1 with rfl | ⟨h1, h1'⟩
  · rcases h2 with rfl | ⟨h2, h2'⟩
    · rfl
    · obtain ⟨s, t, rfl⟩ := isNaN_form h2
      obtain ⟨s', t', rfl⟩ := isNaN_form h2'
      rw [sum_nan_right, sum_nan_right]
  · obtain ⟨s, t, rfl⟩ := isNaN_form h1
    obtain ⟨s', t', rfl⟩ := isNaN_form h1'
    rw [sum_nan_left, sum_nan_left]
theorem product_noNaN (d e d' e' : Datum) (h1 : Alike d d') (h2 : Alike e e') : d.product e = d'.product e' := by
  rcases h1 with rfl | ⟨h1, h1'⟩
  · rcases h2 with rfl | ⟨h2, h2'⟩
    · rfl
    · obtain ⟨s, t, rfl⟩ := isNaN_form h2
      obtain ⟨s', t', rfl⟩ := isNaN_form h2'
      rw [product_nan_right', product_nan_right']
  · obtain ⟨s, t, rfl⟩ := isNaN_form h1
    obtain ⟨s', t', rfl⟩ := isNaN_form h1'
    rw [product_nan_left', product_nan_left']
theorem quotient_noNaN (k : Nat) (d e d' e' : Datum) (h1 : Alike d d') (h2 : Alike e e') : d.quotient k e = d'.quotient k e' := by
  rcases h1 with rfl | ⟨h1, h1'⟩
  · rcases h2 with rfl | ⟨h2, h2'⟩
    · rfl
    · obtain ⟨s, t, rfl⟩ := isNaN_form h2
      obtain ⟨s', t', rfl⟩ := isNaN_form h2'
      rw [quotient_nan_right', quotient_nan_right']
  · obtain ⟨s, t, rfl⟩ := isNaN_form h1
    obtain ⟨s', t', rfl⟩ := isNaN_form h1'
    rw [quotient_nan_left', quotient_nan_left']
theorem root_noNaN (k : Nat) (d d' : Datum) (h1 : Alike d d') : d.root k = d'.root k := by
  rcases h1 with rfl | ⟨h1, h1'⟩
  · rfl
  · obtain ⟨s, t, rfl⟩ := isNaN_form h1
    obtain ⟨s', t', rfl⟩ := isNaN_form h1'
    rfl
theorem none_all (a b : Nat) (h : NoNum a ∨ NoNum b) : sumW a b = 2143289344 ∧ restW a b = 2143289344 ∧ productW a b = 2143289344 ∧ ratioW a b = 2143289344 := by
  unfold sumW restW productW ratioW Format.add Format.sub Format.mul Format.div
  rcases h with h | h
  · obtain ⟨s, t, e⟩ := isNaN_form ((noNum_iff _).1 h)
    rw [e, sum_nan_left, sum_nan_left, product_nan_left', quotient_nan_left']
    exact ⟨rfl, rfl, rfl, rfl⟩
  · obtain ⟨s, t, e⟩ := isNaN_form ((noNum_iff _).1 h)
    rw [e, show (Datum.nan s t).opposite = .nan (!s) t from rfl, sum_nan_right, sum_nan_right, product_nan_right', quotient_nan_right']
    exact ⟨rfl, rfl, rfl, rfl⟩
end Go.Proofs.Ytllchfdddfmjbaa
