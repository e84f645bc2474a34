/- Plain law: lists of digits to the base 2^32, the lowest first. No program in sight. -/
import Ieee.Arith
namespace Go.Proofs.Ytdihbpfoalmlcaa

/-- The base. -/
def Bw : Nat := 4294967296

/-- The number of a list of digits. -/
def dval : List Nat → Nat
  | [] => 0
  | d :: r => d + Bw * dval r

def Small (xs : List Nat) : Prop := ∀ d ∈ xs, d < Bw
/-- No nought at the upper end. -/
def Norm (xs : List Nat) : Prop := xs.getLast? ≠ some 0

theorem Bw_pos : 0 < Bw := by decide
theorem Bwpow_pos (k : Nat) : 0 < Bw ^ k := Nat.pow_pos Bw_pos

theorem dval_append (xs ys : List Nat) : dval (xs ++ ys) = dval xs + Bw ^ xs.length * dval ys := by
  induction xs with
  | nil => simp [dval]
  | cons d r ih =>
    simp only [List.cons_append, dval, ih, List.length_cons, Nat.pow_succ]
    rw [Nat.mul_add, Nat.add_assoc, ← Nat.mul_assoc, Nat.mul_comm Bw (Bw ^ r.length)]

theorem dval_snoc (xs : List Nat) (d : Nat) : dval (xs ++ [d]) = dval xs + Bw ^ xs.length * d := by
  rw [dval_append]; simp [dval]

theorem dval_lt (xs : List Nat) (h : Small xs) : dval xs < Bw ^ xs.length := by
  induction xs with
  | nil => simp [dval]
  | cons d r ih =>
    have h1 : d < Bw := h d (by simp)
    have h2 := ih (fun x hx => h x (by simp [hx]))
    simp only [dval, List.length_cons, Nat.pow_succ]
    have h3 : Bw * (dval r + 1) ≤ Bw * Bw ^ r.length := Nat.mul_le_mul_left _ h2
    rw [Nat.mul_comm (Bw ^ r.length) Bw]
    rw [Nat.mul_add] at h3
    omega

theorem dval_take_succ (xs : List Nat) (k : Nat) (h : k < xs.length) : dval (xs.take (k + 1)) = dval (xs.take k) + Bw ^ k * xs[k] := by
  rw [List.take_succ_eq_append_getElem h, dval_snoc, List.length_take, Nat.min_eq_left (by omega)]

theorem small_take {xs : List Nat} (h : Small xs) (k : Nat) : Small (xs.take k) := fun d hd => h d (List.mem_of_mem_take hd)
theorem small_snoc {xs : List Nat} (h : Small xs) {d : Nat} (hd : d < Bw) : Small (xs ++ [d]) := by
  intro x hx
  rcases List.mem_append.1 hx with h1 | h1
  · exact h x h1
  · simp at h1; omega
theorem small_nil : Small [] := fun _ h => by cases h

theorem norm_nil : Norm [] := by simp [Norm]

theorem dval_take_zero (xs : List Nat) (k : Nat) (h : k < xs.length) (h0 : xs[k] = 0) : dval (xs.take (k + 1)) = dval (xs.take k) := by
  rw [dval_take_succ xs k h, h0]; simp

theorem norm_take (xs : List Nat) (k : Nat) (h : k < xs.length) (h0 : xs[k] ≠ 0) : Norm (xs.take (k + 1)) := by
  unfold Norm
  rw [List.take_succ_eq_append_getElem h, List.getLast?_concat]
  simpa using h0

theorem norm_low (xs : List Nat) (hn : Norm xs) (h0 : xs ≠ []) : Bw ^ (xs.length - 1) ≤ dval xs := by
  obtain ⟨ys, d, rfl⟩ : ∃ ys d, xs = ys ++ [d] := ⟨xs.dropLast, xs.getLast h0, (List.dropLast_concat_getLast h0).symm⟩
  unfold Norm at hn
  rw [List.getLast?_concat] at hn
  have hd : d ≠ 0 := fun e => hn (by rw [e])
  rw [dval_snoc]
  simp only [List.length_append, List.length_singleton, Nat.add_sub_cancel]
  have : Bw ^ ys.length * 1 ≤ Bw ^ ys.length * d := Nat.mul_le_mul_left _ (by omega)
  omega

theorem norm_zero (xs : List Nat) (hn : Norm xs) : dval xs = 0 ↔ xs = [] := by
  constructor
  · intro h
    refine Classical.byContradiction fun h0 => ?_
    have := norm_low xs hn h0
    have := Bwpow_pos (xs.length - 1)
    omega
  · rintro rfl; rfl

/-- More digits: a greater number. -/
theorem norm_len_lt (xs ys : List Nat) (hs : Small xs) (hn : Norm ys) (h : xs.length < ys.length) : dval xs < dval ys := by
  have h1 := dval_lt xs hs
  have h2 := norm_low ys hn (by intro e; subst e; simp at h)
  have h3 : Bw ^ xs.length ≤ Bw ^ (ys.length - 1) := Nat.pow_le_pow_right Bw_pos (by omega)
  omega

theorem norm_length_le (xs : List Nat) (hn : Norm xs) (k : Nat) (h : dval xs < Bw ^ k) : xs.length ≤ k := by
  refine Nat.le_of_not_lt fun hk => ?_
  have h0 : xs ≠ [] := by intro e; subst e; simp at hk
  have h1 := norm_low xs hn h0
  have h2 : Bw ^ k ≤ Bw ^ (xs.length - 1) := Nat.pow_le_pow_right Bw_pos (by omega)
  omega

/-- Two numbers of one length, the same above place k: they stand as the digits at k do. -/
theorem dval_split (xs : List Nat) (k : Nat) : dval xs = dval (xs.take k) + Bw ^ (min k xs.length) * dval (xs.drop k) := by
  conv => lhs; rw [← List.take_append_drop k xs]
  rw [dval_append, List.length_take]

theorem dval_drop (xs : List Nat) (k : Nat) (h : k < xs.length) : dval (xs.drop k) = xs[k] + Bw * dval (xs.drop (k + 1)) := by
  rw [List.drop_eq_getElem_cons h]; rfl

theorem dval_cmp (xs ys : List Nat) (hx : Small xs) (hl : xs.length = ys.length) (k : Nat) (hk : k < xs.length)
    (hsame : dval (xs.drop (k + 1)) = dval (ys.drop (k + 1))) (hd : xs[k] < ys[k]'(by omega)) : dval xs < dval ys := by
  rw [dval_split xs (k + 1), dval_split ys (k + 1), hsame, ← hl, Nat.min_eq_left (by omega)]
  rw [dval_take_succ xs k hk, dval_take_succ ys k (by omega)]
  have h1 : dval (xs.take k) < Bw ^ k := by
    have := dval_lt _ (small_take hx k)
    rwa [List.length_take, Nat.min_eq_left (by omega)] at this
  have h2 : Bw ^ k * (xs[k] + 1) ≤ Bw ^ k * ys[k]'(by omega) := Nat.mul_le_mul_left _ hd
  rw [Nat.mul_add] at h2
  omega

/-- The bits of a number: how many. -/
def bsize (n : Nat) : Nat := if n = 0 then 0 else n.log2 + 1

theorem bsize_zero : bsize 0 = 0 := rfl
theorem bsize_pos {n : Nat} (h : 0 < n) : bsize n = n.log2 + 1 := by unfold bsize; rw [if_neg (by omega)]
theorem bsize_half {n : Nat} (h : 0 < n) : bsize n = bsize (n / 2) + 1 := by
  rw [bsize_pos h]
  by_cases h1 : n = 1
  · subst h1; decide
  · rw [bsize_pos (by omega)]
    have : n.log2 = (n / 2).log2 + 1 := by
      rw [Nat.log2_def]; rw [if_pos (by omega)]
    omega
theorem bsize_unique {n k : Nat} (h1 : 2 ^ k ≤ n) (h2 : n < 2 ^ (k + 1)) : bsize n = k + 1 := by
  have h0 : 0 < n := Nat.lt_of_lt_of_le (Nat.two_pow_pos k) h1
  rw [bsize_pos h0]
  have h3 : k ≤ n.log2 := (Nat.le_log2 (by omega)).2 h1
  have h4 : n.log2 < k + 1 := (Nat.log2_lt (by omega)).2 h2
  omega
theorem lt_bsize (n : Nat) : n < 2 ^ bsize n := by
  by_cases h : n = 0
  · subst h; decide
  · rw [bsize_pos (by omega)]; exact Nat.lt_log2_self
theorem bsize_le {n : Nat} (h : 0 < n) : 2 ^ (bsize n - 1) ≤ n := by
  rw [bsize_pos h]; exact Nat.log2_self_le (by omega)

theorem Bw_two : Bw = 2 ^ 32 := by decide
theorem Bwpow_two (k : Nat) : Bw ^ k = 2 ^ (32 * k) := by rw [Bw_two, ← Nat.pow_mul]

/-- The top digit tells the size. -/
theorem bsize_top (xs : List Nat) (d : Nat) (hs : Small xs) (hd : 0 < d) : bsize (dval (xs ++ [d])) = 32 * xs.length + bsize d := by
  have h1 := bsize_le hd
  have h2 := lt_bsize d
  have hp : bsize d = d.log2 + 1 := bsize_pos hd
  rw [dval_snoc, Bwpow_two, hp]
  rw [hp] at h1 h2
  have h3 := dval_lt xs hs
  rw [Bwpow_two] at h3
  rw [Nat.add_sub_cancel] at h1
  refine bsize_unique (k := 32 * xs.length + d.log2) ?_ ?_
  · rw [Nat.pow_add]
    have : 2 ^ (32 * xs.length) * 2 ^ d.log2 ≤ 2 ^ (32 * xs.length) * d := Nat.mul_le_mul_left _ h1
    omega
  · have : 2 ^ (32 * xs.length) * (d + 1) ≤ 2 ^ (32 * xs.length) * 2 ^ (d.log2 + 1) := Nat.mul_le_mul_left _ h2
    rw [← Nat.pow_add, Nat.mul_add] at this
    rw [← Nat.add_assoc] at this
    omega


/-! ### What the rounds of the loops do -/
/-- digit k, 0 beyond the end -/
def dg (xs : List Nat) (k : Nat) : Nat := xs[k]?.getD 0
theorem dg_in {xs : List Nat} {k : Nat} (h : k < xs.length) : dg xs k = xs[k] := by unfold dg; rw [List.getElem?_eq_getElem h]; rfl
theorem dg_out {xs : List Nat} {k : Nat} (h : xs.length ≤ k) : dg xs k = 0 := by unfold dg; rw [List.getElem?_eq_none h]; rfl

theorem dg_lt {xs : List Nat} (h : Small xs) (k : Nat) : dg xs k < Bw := by
  by_cases hk : k < xs.length
  · rw [dg_in hk]; exact h _ (List.getElem_mem hk)
  · rw [dg_out (by omega)]; exact Bw_pos

theorem dval_take_dg (xs : List Nat) (k : Nat) : dval (xs.take (k + 1)) = dval (xs.take k) + Bw ^ k * dg xs k := by
  by_cases hk : k < xs.length
  · rw [dval_take_succ xs k hk, dg_in hk]
  · rw [dg_out (by omega), List.take_of_length_le (by omega), List.take_of_length_le (by omega)]; simp

theorem dval_take_all (xs : List Nat) (k : Nat) (h : xs.length ≤ k) : dval (xs.take k) = dval xs := by
  rw [List.take_of_length_le h]

/-- One round of plus. -/
theorem plus_round {a b out : List Nat} {k c : Nat} (hl : out.length = k) (h : dval out + Bw ^ k * c = dval (a.take k) + dval (b.take k)) :
    dval (out ++ [(c + dg a k + dg b k) % Bw]) + Bw ^ (k + 1) * ((c + dg a k + dg b k) / Bw) = dval (a.take (k + 1)) + dval (b.take (k + 1)) := by
  rw [dval_snoc, hl, dval_take_dg, dval_take_dg, Nat.pow_succ]
  have h1 := Nat.div_add_mod (c + dg a k + dg b k) Bw
  have h2 : Bw ^ k * (Bw * ((c + dg a k + dg b k) / Bw) + (c + dg a k + dg b k) % Bw) = Bw ^ k * (c + dg a k + dg b k) := by rw [h1]
  rw [Nat.mul_add, Nat.mul_add, Nat.mul_add, ← Nat.mul_assoc] at h2
  omega

theorem less_no {o x y p q P l : Nat} (h : o + y = x + P * l) (hd : l + q ≤ p) : (o + P * (p - (l + q))) + (y + P * q) = (x + P * p) + P * Bw * 0 := by
  obtain ⟨t, rfl⟩ : ∃ t, p = l + q + t := ⟨p - (l + q), by omega⟩
  simp only [Nat.add_sub_cancel_left, Nat.mul_add, Nat.mul_zero]
  omega

theorem less_yes {o x y p q P l : Nat} (h : o + y = x + P * l) (hq : l + q ≤ p + Bw) : (o + P * (p + Bw - (l + q))) + (y + P * q) = (x + P * p) + P * Bw * 1 := by
  obtain ⟨t, ht⟩ : ∃ t, p + Bw = l + q + t := ⟨p + Bw - (l + q), by omega⟩
  rw [ht]
  have h2 : P * (p + Bw) = P * (l + q + t) := by rw [ht]
  simp only [Nat.add_sub_cancel_left, Nat.mul_add, Nat.mul_one] at h2 ⊢
  omega

/-- One round of less: nothing is lent. -/
theorem less_round_no {a b out : List Nat} {k l : Nat} (hl : out.length = k) (h : dval out + dval (b.take k) = dval (a.take k) + Bw ^ k * l) (hd : l + dg b k ≤ dg a k) :
    dval (out ++ [dg a k - (l + dg b k)]) + dval (b.take (k + 1)) = dval (a.take (k + 1)) + Bw ^ (k + 1) * 0 := by
  rw [dval_snoc, hl, dval_take_dg, dval_take_dg, Nat.pow_succ]
  exact less_no h hd

/-- One is lent. -/
theorem less_round_yes {a b out : List Nat} {k l : Nat} (hl : out.length = k) (h : dval out + dval (b.take k) = dval (a.take k) + Bw ^ k * l) (hq : l + dg b k ≤ dg a k + Bw) :
    dval (out ++ [dg a k + Bw - (l + dg b k)]) + dval (b.take (k + 1)) = dval (a.take (k + 1)) + Bw ^ (k + 1) * 1 := by
  rw [dval_snoc, hl, dval_take_dg, dval_take_dg, Nat.pow_succ]
  exact less_yes h hq

/-- At the end of less nothing is lent: a is not below b, and b is not longer. -/
theorem less_end {a b out : List Nat} {l : Nat} (ho : Small out) (hl : out.length = a.length) (hb : b.length ≤ a.length) (hab : dval b ≤ dval a)
    (h : dval out + dval (b.take a.length) = dval (a.take a.length) + Bw ^ a.length * l) : dval out = dval a - dval b := by
  rw [dval_take_all b _ hb, dval_take_all a _ (Nat.le_refl _)] at h
  have h1 := dval_lt out ho
  rw [hl] at h1
  have h2 : l = 0 := by
    refine Classical.byContradiction fun h0 => ?_
    have : Bw ^ a.length * 1 ≤ Bw ^ a.length * l := Nat.mul_le_mul_left _ (by omega)
    omega
  subst h2
  simp at h
  omega

/-- One round of up's second loop. -/
theorem up_round {a out : List Nat} {k c s z : Nat} (hl : out.length = z + k)
    (h : dval out + Bw ^ (z + k) * c = Bw ^ z * (dval (a.take k) * 2 ^ s)) :
    dval (out ++ [(dg a k * 2 ^ s) % Bw + c]) + Bw ^ (z + (k + 1)) * ((dg a k * 2 ^ s) / Bw) = Bw ^ z * (dval (a.take (k + 1)) * 2 ^ s) := by
  rw [dval_snoc, hl, dval_take_dg]
  have h1 := Nat.div_add_mod (dg a k * 2 ^ s) Bw
  have e1 : Bw ^ z * ((dval (a.take k) + Bw ^ k * dg a k) * 2 ^ s) = Bw ^ z * (dval (a.take k) * 2 ^ s) + Bw ^ (z + k) * (dg a k * 2 ^ s) := by
    rw [Nat.add_mul, Nat.mul_add, Nat.pow_add, Nat.mul_assoc, Nat.mul_assoc]
  have e2 : Bw ^ (z + (k + 1)) = Bw ^ (z + k) * Bw := by rw [← Nat.add_assoc, Nat.pow_succ]
  have h2 : Bw ^ (z + k) * (Bw * ((dg a k * 2 ^ s) / Bw) + (dg a k * 2 ^ s) % Bw) = Bw ^ (z + k) * (dg a k * 2 ^ s) := by rw [h1]
  rw [e1, e2, ← h]
  rw [Nat.mul_add, ← Nat.mul_assoc] at h2
  rw [Nat.mul_add]
  omega

/-- One round of a row of times. -/
theorem row_round {a row : List Nat} {k c m : Nat} (hl : row.length = k) (h : dval row + Bw ^ k * c = dval (a.take k) * m) :
    dval (row ++ [(dg a k * m + c) % Bw]) + Bw ^ (k + 1) * ((dg a k * m + c) / Bw) = dval (a.take (k + 1)) * m := by
  rw [dval_snoc, hl, dval_take_dg, Nat.pow_succ]
  have h1 := Nat.div_add_mod (dg a k * m + c) Bw
  have h2 : Bw ^ k * (Bw * ((dg a k * m + c) / Bw) + (dg a k * m + c) % Bw) = Bw ^ k * (dg a k * m + c) := by rw [h1]
  rw [Nat.mul_add, Nat.mul_add, ← Nat.mul_assoc] at h2
  rw [Nat.add_mul, ← h, Nat.mul_assoc (Bw ^ k) (dg a k)]
  omega

theorem dval_replicate_zero (n : Nat) : dval (List.replicate n 0) = 0 := by
  induction n with
  | zero => rfl
  | succ n ih => rw [List.replicate_succ]; simp [dval, ih]

/-- The bit at a place. -/
theorem dval_bit (xs : List Nat) (hs : Small xs) (k j : Nat) (hj : j < 32) : dval xs / 2 ^ (32 * k + j) % 2 = dg xs k / 2 ^ j % 2 := by
  have h1 : dval xs / 2 ^ (32 * k + j) = dval (xs.drop k) / 2 ^ j := by
    by_cases hk : k ≤ xs.length
    · rw [Nat.pow_add, ← Nat.div_div_eq_div_mul, ← Bwpow_two]
      congr 1
      conv => lhs; rw [dval_split xs k, Nat.min_eq_left hk]
      rw [Nat.add_mul_div_left _ _ (Bwpow_pos k), Nat.div_eq_of_lt, Nat.zero_add]
      have := dval_lt _ (small_take hs k)
      rwa [List.length_take, Nat.min_eq_left hk] at this
    · rw [List.drop_of_length_le (by omega)]
      simp only [dval, Nat.zero_div]
      refine Nat.div_eq_of_lt ?_
      have h2 := dval_lt xs hs
      have h3 : Bw ^ xs.length ≤ 2 ^ (32 * k + j) := by rw [Bwpow_two]; exact Nat.pow_le_pow_right (by omega) (by omega)
      omega
  rw [h1]
  by_cases hk : k < xs.length
  · rw [dval_drop xs k hk]
    rw [dg_in hk]
    obtain ⟨t, ht⟩ : ∃ t, 32 = j + 1 + t := ⟨31 - j, by omega⟩
    have e : Bw * dval (xs.drop (k + 1)) = 2 ^ j * (2 * (2 ^ t * dval (xs.drop (k + 1)))) := by
      rw [Bw_two, ht, Nat.pow_add, Nat.pow_succ]; simp only [Nat.mul_assoc]
    rw [e, Nat.add_mul_div_left _ _ (Nat.two_pow_pos j), Nat.add_mul_mod_self_left]
  · rw [dg_out (by omega), List.drop_of_length_le (by omega)]
    simp [dval]

end Go.Proofs.Ytdihbpfoalmlcaa
