/- Plain law: whole numbers of at most 2^24 in size are exact. -/
import Derived.Test.YtllchfdddfmjbaaKey
import Derived.Test.YtllchfdddfmjbaaOne
namespace Go.Proofs.Ytllchfdddfmjbaa
open Go.RowKit Ieee

theorem can_small (a : Nat) : ∀ s m p, single.read a = .number s m p → m < 16777216 := by
  intro s m p h
  unfold Format.read at h
  rw [single_sign, s_b, single_inf] at h
  simp only at h
  split at h
  · injection h with _ h2; omega
  · split at h
    · injection h with _ h2; omega
    · split at h <;> cases h
theorem Toward_is (a : Nat) (r : Int) (h : towD (single.read a) = r) (w : World) : Calls Try.prog 12 #[.int .u32 (a : Int)] w fun e w' => e = .returned (.int .i32 r) ∧ w = w' := by
  subst h
  have := Toward_any (a : Int) w (fun s m p hd => can_small a s m p (by rwa [Int.toNat_natCast] at hd))
  rwa [Int.toNat_natCast] at this
theorem Of_is (n : Int) (r : Nat) (h : ofW n = r) (w : World) : Calls Try.prog 13 #[.int .i32 n] w fun e w' => e = .returned (.int .u32 (r : Nat)) ∧ w = w' := by
  subst h; exact Of_any n w

theorem tmod_le (a : Int) (k : Nat) (h : 0 < k) : (a.tmod (k : Nat)).natAbs ≤ k - 1 := by
  rw [Int.natAbs_tmod, Int.natAbs_natCast]
  have := Nat.mod_lt a.natAbs h
  omega
theorem clean_word (s : Bool) (r : Nat) (h : r ≤ 2139095040) : clean (single.word s r) = single.word s r := by
  unfold clean
  rw [isNaN_read single (by decide), single_inf, word_mod single s r (by rw [single_sign]; omega), if_neg (by rw [decide_eq_true_eq]; omega)]

/-- The rung of a whole number. -/
theorem whole_rung (m : Nat) (h : m ≤ 16777216) : ∃ r, r < 2139095040 ∧ V single r = m * 2 ^ 149 := by
  have hr : ∃ r, V single r = m * 2 ^ 149 := by
    by_cases h1 : m < 16777216
    · exact has_rung single 149 m (by rw [s_b]; omega)
    · obtain ⟨r, hr⟩ := has_rung single 150 8388608 (by rw [s_b]; omega)
      refine ⟨r, ?_⟩
      rw [hr, show m = 16777216 from by omega]
  obtain ⟨r, hr⟩ := hr
  refine ⟨r, ?_, hr⟩
  rw [← single_inf]
  refine rung_fin single ?_
  rw [hr, V_inf single (by decide), s_b, show 2 ^ single.exponentBits - 2 = 254 from by decide]
  have h1 : m * 2 ^ 149 ≤ 16777216 * 2 ^ 149 := Nat.mul_le_mul_right _ h
  exact Nat.lt_of_le_of_lt h1 (by decide)

theorem nearest_whole (s : Bool) (m r mag : Nat) (place : Int) (hr : r < 2139095040) (hV : V single r = m * 2 ^ 149) (hp : -149 ≤ place) (h : mag * 2 ^ (place + 149).toNat = m * 2 ^ 149) :
    single.nearest s mag place = single.word s r := by
  rw [nearest_eq, rungOf_exact single (by decide) mag place r (by rw [single_inf]; omega)]
  rw [s_l, show (place - -149).toNat = (place + 149).toNat from by omega, show (-149 - place).toNat = 0 from by omega, Nat.pow_zero, Nat.mul_one, hV, h]

theorem of_whole (n : Int) (r : Nat) (hr : r < 2139095040) (hV : V single r = n.natAbs * 2 ^ 149) : ofW n = single.word (decide (n < 0)) r := by
  unfold ofW
  rw [nearest_whole (decide (n < 0)) n.natAbs r n.natAbs 0 hr hV (by decide) rfl, clean_word _ _ (by omega)]

theorem read_whole (s : Bool) (r : Nat) (hr : r < 2139095040) : ∃ m k : Nat, single.read (single.word s r) = .number s m (-149 + k) ∧ V single r = m * 2 ^ k := by
  obtain ⟨m, k, h1, h2, -, -⟩ := read_word single s r (by rw [single_inf]; exact hr)
  rw [s_l] at h1
  exact ⟨m, k, h1, h2⟩

theorem trunc_whole (m k n : Nat) (h : m * 2 ^ k = n * 2 ^ 149) : truncN m (-149 + (k : Int)) = n := by
  unfold truncN
  by_cases h0 : (0 : Int) ≤ -149 + (k : Int)
  · obtain ⟨j, rfl⟩ : ∃ j, k = j + 149 := ⟨k - 149, by omega⟩
    rw [if_pos h0, show (-149 + ((j + 149 : Nat) : Int)).toNat = j from by omega]
    rw [Nat.pow_add, ← Nat.mul_assoc] at h
    exact Nat.eq_of_mul_eq_mul_right (Nat.two_pow_pos 149) h
  · obtain ⟨j, hj⟩ : ∃ j, 149 = k + j := ⟨149 - k, by omega⟩
    rw [if_neg h0, show (-(-149 + (k : Int))).toNat = j from by omega]
    have e : n * 2 ^ 149 = n * 2 ^ j * 2 ^ k := by rw [Nat.mul_assoc, ← Nat.pow_add, Nat.add_comm j k, ← hj]
    rw [e] at h
    have := Nat.eq_of_mul_eq_mul_right (Nat.two_pow_pos k) h
    rw [this]
    exact Nat.mul_div_cancel _ (Nat.two_pow_pos j)

/-- It comes back. -/
theorem whole_back (n : Int) (h : n.natAbs ≤ 16777216) : towD (single.read (ofW n)) = n := by
  obtain ⟨r, hr, hV⟩ := whole_rung n.natAbs h
  rw [of_whole n r hr hV]
  obtain ⟨m, k, h1, h2⟩ := read_whole (decide (n < 0)) r hr
  rw [h1]
  simp only [towD]
  rw [trunc_whole m k n.natAbs (by rw [← h2, hV])]
  by_cases hn : n < 0
  · rw [decide_eq_true hn, if_pos rfl]
    unfold clampI
    rw [if_neg (by omega), if_neg (by omega)]
    omega
  · rw [decide_eq_false hn, if_neg Bool.false_ne_true]
    unfold clampI
    rw [if_neg (by omega), if_neg (by omega)]
    omega

theorem signed_eq (s : Bool) (m k : Nat) : signed s m k = if s then -((m * 2 ^ k : Nat) : Int) else ((m * 2 ^ k : Nat) : Int) := by unfold signed; rw [Nat.shiftLeft_eq]
theorem signed_int (n : Int) (m k j : Nat) (h : m * 2 ^ k * 2 ^ j = n.natAbs * 2 ^ 149) : signed (decide (n < 0)) m k * (2 ^ j : Nat) = n * (2 ^ 149 : Nat) := by
  rw [signed_eq]
  have e : ((m * 2 ^ k : Nat) : Int) * (2 ^ j : Nat) = (n.natAbs : Int) * (2 ^ 149 : Nat) := by rw [← Int.natCast_mul, ← Int.natCast_mul, h]
  generalize ((2 ^ 149 : Nat) : Int) = B at *
  generalize ((2 ^ j : Nat) : Int) = J at *
  by_cases hn : n < 0
  · rw [decide_eq_true hn, if_pos rfl, Int.neg_mul, e, ← Int.neg_mul]
    congr 1
    omega
  · rw [decide_eq_false hn, if_neg Bool.false_ne_true, e]
    congr 1
    omega

theorem sum_whole (n m : Int) (hn : n.natAbs ≤ 16777216) (hm : m.natAbs ≤ 16777216) (hs : (n + m).natAbs ≤ 16777216) : sumW (ofW n) (ofW m) = ofW (n + m) := by
  obtain ⟨r, hr, hV⟩ := whole_rung n.natAbs hn
  obtain ⟨q, hq, hW⟩ := whole_rung m.natAbs hm
  obtain ⟨t, ht, hU⟩ := whole_rung (n + m).natAbs hs
  rw [of_whole n r hr hV, of_whole m q hq hW, of_whole (n + m) t ht hU]
  obtain ⟨a, k, h1, h2⟩ := read_whole (decide (n < 0)) r hr
  obtain ⟨b, l, h3, h4⟩ := read_whole (decide (m < 0)) q hq
  unfold sumW Format.add
  rw [h1, h3]
  simp only [Datum.sum, Option.map_some, Option.getD_some]
  have e0 : min (-149 + (k : Int)) (-149 + (l : Int)) = -149 + ((min k l : Nat) : Int) := by omega
  rw [e0, show (-149 + (k : Int) - (-149 + ((min k l : Nat) : Int))).toNat = k - min k l from by omega, show (-149 + (l : Int) - (-149 + ((min k l : Nat) : Int))).toNat = l - min k l from by omega]
  have x1 := signed_int n a (k - min k l) (min k l) (by rw [Nat.mul_assoc, ← Nat.pow_add, show k - min k l + min k l = k from by omega, ← h2, hV])
  have x2 := signed_int m b (l - min k l) (min k l) (by rw [Nat.mul_assoc, ← Nat.pow_add, show l - min k l + min k l = l from by omega, ← h4, hW])
  have hz1 : n = 0 → signed (decide (n < 0)) a (k - min k l) = 0 := by
    intro h; rw [h] at x1 hV ⊢
    rw [Int.zero_mul] at x1
    exact (Int.mul_eq_zero.1 x1).resolve_right (by have := Nat.two_pow_pos (min k l); omega)
  generalize min k l = j at *
  generalize signed (decide (n < 0)) a (k - j) = x at *
  generalize signed (decide (m < 0)) b (l - j) = y at *
  have hJ : 0 < 2 ^ j := Nat.two_pow_pos j
  have hB : 0 < 2 ^ 149 := Nat.two_pow_pos 149
  have x3 : (x + y) * (2 ^ j : Nat) = (n + m) * (2 ^ 149 : Nat) := by rw [Int.add_mul, Int.add_mul, x1, x2]
  have habs : (x + y).natAbs * 2 ^ j = (n + m).natAbs * 2 ^ 149 := by
    have := congrArg Int.natAbs x3
    rwa [Int.natAbs_mul, Int.natAbs_mul, Int.natAbs_natCast, Int.natAbs_natCast] at this
  have hneg : x + y < 0 ↔ n + m < 0 := by
    have hJ' : (0 : Int) < (2 ^ j : Nat) := by omega
    have hB' : (0 : Int) < (2 ^ 149 : Nat) := Int.ofNat_lt.2 hB
    constructor
    · intro h
      have := Int.mul_neg_of_neg_of_pos h hJ'
      rw [x3] at this
      exact Int.not_le.1 fun hc => by have := Int.mul_nonneg hc (Int.le_of_lt hB'); omega
    · intro h
      have := Int.mul_neg_of_neg_of_pos h hB'
      rw [← x3] at this
      exact Int.not_le.1 fun hc => by have := Int.mul_nonneg hc (Int.le_of_lt hJ'); omega
  have hsg : (if x + y = 0 then (decide (n < 0) && decide (m < 0)) else decide (x + y < 0)) = decide (n + m < 0) := by
    by_cases h0 : x + y = 0
    · rw [if_pos h0]
      have : n + m = 0 := by
        rw [h0, Int.zero_mul] at x3
        exact (Int.mul_eq_zero.1 x3.symm).resolve_right (by have : (0 : Int) < (2 ^ 149 : Nat) := Int.ofNat_lt.2 hB; omega)
      rw [decide_eq_false (show ¬ n + m < 0 by omega), Bool.and_eq_false_iff, decide_eq_false_iff_not, decide_eq_false_iff_not]
      omega
    · rw [if_neg h0]; exact decide_eq_decide.2 hneg
  rw [hsg]
  exact nearest_whole _ (n + m).natAbs t _ _ ht hU (by omega) (by rw [show (-149 + (j : Int) + 149).toNat = j from by omega]; exact habs)

theorem product_whole (n m : Int) (hn : n.natAbs ≤ 16777216) (hm : m.natAbs ≤ 16777216) (hs : (n * m).natAbs ≤ 16777216) :
    ∃ s r, r < 2139095040 ∧ V single r = (n * m).natAbs * 2 ^ 149 ∧ productW (ofW n) (ofW m) = single.word s r ∧ (r ≠ 0 → s = decide (n * m < 0)) := by
  obtain ⟨r, hr, hV⟩ := whole_rung n.natAbs hn
  obtain ⟨q, hq, hW⟩ := whole_rung m.natAbs hm
  obtain ⟨t, ht, hU⟩ := whole_rung (n * m).natAbs hs
  refine ⟨decide (n < 0) ^^ decide (m < 0), t, ht, hU, ?_, ?_⟩
  · rw [of_whole n r hr hV, of_whole m q hq hW]
    obtain ⟨a, k, h1, h2⟩ := read_whole (decide (n < 0)) r hr
    obtain ⟨b, l, h3, h4⟩ := read_whole (decide (m < 0)) q hq
    unfold productW Format.mul
    rw [h1, h3]
    simp only [Datum.product, Option.map_some, Option.getD_some]
    show single.nearest _ (a * b) (-149 + (k : Int) + (-149 + (l : Int))) = _
    rw [nearest_eq, rungOf_exact single (by decide) (a * b) _ t (by rw [single_inf]; omega)]
    rw [hU, s_l, Int.natAbs_mul]
    have hx : a * 2 ^ k * (b * 2 ^ l) = n.natAbs * 2 ^ 149 * (m.natAbs * 2 ^ 149) := by rw [← h2, ← h4, hV, hW]
    have hx2 : a * b * 2 ^ (k + l) = n.natAbs * m.natAbs * 2 ^ 149 * 2 ^ 149 := by
      rw [Nat.pow_add]
      have e1 : a * b * (2 ^ k * 2 ^ l) = a * 2 ^ k * (b * 2 ^ l) := by ac_rfl
      rw [e1, hx]
      generalize 2 ^ 149 = B
      ac_rfl
    by_cases hkl : 149 ≤ k + l
    · obtain ⟨j, hj⟩ : ∃ j, k + l = j + 149 := ⟨k + l - 149, by omega⟩
      rw [show (-149 + (k : Int) + (-149 + (l : Int)) - -149).toNat = j from by omega, show (-149 - (-149 + (k : Int) + (-149 + (l : Int)))).toNat = 0 from by omega, Nat.pow_zero, Nat.mul_one]
      rw [hj, Nat.pow_add, ← Nat.mul_assoc] at hx2
      exact Nat.eq_of_mul_eq_mul_right (Nat.two_pow_pos 149) hx2
    · obtain ⟨j, hj⟩ : ∃ j, 149 = k + l + j := ⟨149 - (k + l), by omega⟩
      rw [show (-149 + (k : Int) + (-149 + (l : Int)) - -149).toNat = 0 from by omega, show (-149 - (-149 + (k : Int) + (-149 + (l : Int)))).toNat = j from by omega, Nat.pow_zero, Nat.mul_one]
      have e : n.natAbs * m.natAbs * 2 ^ 149 * 2 ^ 149 = n.natAbs * m.natAbs * 2 ^ 149 * 2 ^ j * 2 ^ (k + l) := by
        rw [Nat.mul_assoc (n.natAbs * m.natAbs * 2 ^ 149), ← Nat.pow_add, show j + (k + l) = 149 from by omega]
      rw [e] at hx2
      exact Nat.eq_of_mul_eq_mul_right (Nat.two_pow_pos _) hx2
  · intro h0
    have hnz : n * m ≠ 0 := by
      intro h
      rw [h, Int.natAbs_zero, Nat.zero_mul] at hU
      have := V_pos (show 0 < t by omega)
      omega
    have hn0 : n ≠ 0 := fun h => hnz (by rw [h, Int.zero_mul])
    have hm0 : m ≠ 0 := fun h => hnz (by rw [h, Int.mul_zero])
    by_cases h1 : n < 0 <;> by_cases h2 : m < 0
    · have := Int.mul_pos_of_neg_of_neg h1 h2
      rw [decide_eq_true h1, decide_eq_true h2, decide_eq_false (by omega)]; rfl
    · have := Int.mul_neg_of_neg_of_pos h1 (show 0 < m by omega)
      rw [decide_eq_true h1, decide_eq_false h2, decide_eq_true (by omega)]; rfl
    · have := Int.mul_neg_of_pos_of_neg (show 0 < n by omega) h2
      rw [decide_eq_false h1, decide_eq_true h2, decide_eq_true (by omega)]; rfl
    · have := Int.mul_pos (show 0 < n by omega) (show 0 < m by omega)
      rw [decide_eq_false h1, decide_eq_false h2, decide_eq_false (by omega)]; rfl

theorem word_key (s : Bool) (r : Nat) (h : r ≤ 2139095040) : single.word s r ≤ 4294967295 ∧ ¬ NoNum (single.word s r) ∧ keyW (single.word s r) = if s then -(r : Int) else r := by
  unfold NoNum keyW Format.word
  rw [single_sign]
  cases s
  · rw [if_neg Bool.false_ne_true, if_neg Bool.false_ne_true, if_pos (by omega)]
    omega
  · rw [if_pos rfl, if_pos rfl, if_neg (by omega)]
    omega

/-- A product of whole numbers stands even with their product's word. -/
theorem product_even (n m : Int) (hn : n.natAbs ≤ 16777216) (hm : m.natAbs ≤ 16777216) (hs : (n * m).natAbs ≤ 16777216) : sideOf (single.order (productW (ofW n) (ofW m)) (ofW (n * m))) = 3 := by
  obtain ⟨s, r, hr, hV, hP, hsg⟩ := product_whole n m hn hm hs
  rw [hP, of_whole (n * m) r hr hV]
  obtain ⟨a1, a2, a3⟩ := word_key s r (by omega)
  obtain ⟨b1, b2, b3⟩ := word_key (decide (n * m < 0)) r (by omega)
  refine side_eq _ _ a1 b1 a2 b2 ?_
  rw [a3, b3]
  by_cases h0 : r = 0
  · subst h0; split <;> split <;> rfl
  · rw [hsg h0]
end Go.Proofs.Ytllchfdddfmjbaa
