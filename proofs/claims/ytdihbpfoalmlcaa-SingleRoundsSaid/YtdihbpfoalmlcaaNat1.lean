/- Contracts of the reference's numbers, first part: cut, low, size, bit. -/
import Derived.Test.YtdihbpfoalmlcaaMem
namespace Go.Proofs.Ytdihbpfoalmlcaa
open Go.RowKit

theorem int_zero_of {d : Nat} (h : ((d : Int) == 0) = true) : d = 0 := by simpa using h
theorem ret_of {v u : Value} (h : v = u) : Ending.returned v = .returned u := by rw [h]

theorem cut_any (A : Option Addr) (cap : Nat) (xs : List Nat) (w : World) (hl : xs.length ≤ cap) (hcap : cap ≤ 9223372036854775807) (hd : Dg w w.heap.size A xs) (hs : Small xs) :
    Calls Try.prog 81 #[.slice A xs.length cap] w fun e w' => ∃ v, e = .returned v ∧ IsN w v (dval xs) ∧ w = w' := by
  go_enter Try.func81, Try.ntmps81
  go_wp2
  go_loop [3] (fun n => ∃ k : Nat, k ≤ xs.length ∧ n = .int .i64 k ∧ dval (xs.take k) = dval xs) (fun n => (intOf n).toNat)
  case atStart => exact ⟨xs.length, Nat.le_refl _, rfl, by rw [List.take_length]⟩
  case round =>
    obtain ⟨k, hk, rfl, hv⟩ := hrel
    have HV := Lib.hid hv
    clear hv
    by_cases h0 : k = 0
    · subst h0
      go_wp2
      go_ret
      exact ⟨_, rfl, ⟨A, cap, [], rfl, by simp, hcap, Dg.nil_ _ _ _, small_nil, norm_nil, by rw [← HV.out]; simp [dval]⟩, rfl⟩
    · obtain ⟨j, rfl⟩ : ∃ j, k = j + 1 := ⟨k - 1, by omega⟩
      have HD := Lib.hid hd
      obtain ⟨b, rfl, hb, hc⟩ := hd (by omega)
      have hcell := hc j (by omega)
      clear hc
      go_wp2
      · go_round
        case rel =>
          refine ⟨j, by omega, rfl, ?_⟩
          have h1 : dg xs j = 0 := int_zero_of ‹_›
          rw [dg_in (by omega)] at h1
          rw [← HV.out, dval_take_zero xs j (by omega) h1]
        case measure => simp [intOf]
      · have h1 : ((dg xs j : Nat) == (0 : Int)) = false := by assumption
        go_ret
        have hl2 : (xs.take (j + 1)).length = j + 1 := by rw [List.length_take]; omega
        refine ⟨_, rfl, ⟨_, cap, xs.take (j + 1), by rw [hl2]; rfl, by omega, hcap, HD.out.take _, small_take hs _, norm_take xs j (by omega) ?_, HV.out⟩, rfl⟩
        intro e
        rw [dg_in (by omega), e] at h1
        simp at h1

theorem small_head {d : Nat} {r : List Nat} (h : Small (d :: r)) : d ≤ 4294967295 := by
  have := h d (by simp)
  unfold Bw at this
  omega
theorem dval_one (d : Nat) : dval [d] = d := by simp [dval]
theorem dval_low (d e : Nat) (r : List Nat) (hd : d ≤ 4294967295) (he : e ≤ 4294967295) : dval (d :: e :: r) % 18446744073709551616 = d + e * 4294967296 := by
  have : dval (d :: e :: r) = d + e * 4294967296 + 18446744073709551616 * dval r := by
    simp only [dval, Bw]
    omega
  rw [this]
  omega
theorem or_high (d e : Nat) (hd : d ≤ 4294967295) (he : e ≤ 4294967295) : bits .or .u64 (d : Int) ((e : Int) * 4294967296) = ((d + e * 4294967296 : Nat) : Int) := by
  have h1 : ((e : Int) * 4294967296) = ((e * 4294967296 : Nat) : Int) := by omega
  rw [h1, u64_or_nat _ _ (by omega) (by omega), Nat.or_comm, nat_join 32 _ _ (by omega) (by omega), Nat.add_comm]

/-- The lowest 64 bits. -/
theorem low_any (v : Value) (n : Nat) (w : World) (h : IsN w v n) :
    Calls Try.prog 57 #[v] w fun e w' => e = .returned (.int .u64 (n % 18446744073709551616 : Nat)) ∧ w = w' := by
  obtain ⟨A, cap, xs, rfl, hl, hcap, hd, hs, hn, hv⟩ := h
  match xs, hd, hs, hv, hl with
  | [], _, _, hv, _ =>
    subst hv
    go_enter Try.func57, Try.ntmps57
    go_wp2
    go_ret
    exact ⟨rfl, rfl⟩
  | [d], hd, hs, hv, hl =>
    obtain ⟨b, rfl, hb, hc⟩ := hd (by simp)
    have h0 : w.cell? ⟨b, 0, none⟩ = some (.int .u32 (d : Nat)) := hc 0 (by simp)
    have hd0 := small_head hs
    have HV := Lib.hid hv
    clear hc hv
    go_enter Try.func57, Try.ntmps57
    go_wp2
    go_ret
    refine ⟨ret_of ?_, rfl⟩
    rw [← HV.out, dval_one, Nat.mod_eq_of_lt (by omega)]
    rfl
  | d :: d2 :: r, hd, hs, hv, hl =>
    obtain ⟨b, rfl, hb, hc⟩ := hd (by simp)
    have h0 : w.cell? ⟨b, 0, none⟩ = some (.int .u32 (d : Nat)) := hc 0 (by simp)
    have h1 : w.cell? ⟨b, 1, none⟩ = some (.int .u32 (d2 : Nat)) := hc 1 (by simp)
    have hd0 := small_head hs
    have hd2 : d2 ≤ 4294967295 := small_head (r := r) (fun x hx => hs x (List.mem_cons_of_mem _ hx))
    have HV := Lib.hid hv
    clear hc hv
    go_enter Try.func57, Try.ntmps57
    go_wp2
    go_ret
    refine ⟨ret_of ?_, rfl⟩
    rw [← HV.out, dval_low d d2 r hd0 hd2, ← or_high d d2 hd0 hd2]
    rfl

theorem snoc_cases (xs : List Nat) : xs = [] ∨ ∃ ys d, xs = ys ++ [d] := by
  by_cases h : xs = []
  · exact .inl h
  · exact .inr ⟨xs.dropLast, xs.getLast h, (List.dropLast_concat_getLast h).symm⟩

theorem size_any (v : Value) (n : Nat) (w : World) (h : IsN w v n) (hb : bsize n ≤ 1000000) :
    Calls Try.prog 80 #[v] w fun e w' => e = .returned (.int .i64 (bsize n : Nat)) ∧ w = w' := by
  obtain ⟨A, cap, xs, rfl, hl, hcap, hd, hs, hn, rfl⟩ := h
  have hlen := len_lt hn
  rcases snoc_cases xs with rfl | ⟨ys, d, rfl⟩
  · go_enter Try.func80, Try.ntmps80
    go_wp2
    go_ret
    exact ⟨rfl, rfl⟩
  · have hd0 : 0 < d := by
      unfold Norm at hn
      rw [List.getLast?_concat] at hn
      exact Nat.pos_of_ne_zero fun e => hn (by rw [e])
    have hlc : (ys ++ [d]).length = ys.length + 1 := by simp
    have hd4 : d ≤ 4294967295 := by
      have := hs d (by simp)
      unfold Bw at this; omega
    rw [hlc] at hlen hl ⊢
    have HT := Lib.hid (show bsize (dval (ys ++ [d])) = 32 * ys.length + bsize d from bsize_top ys d (fun x hx => hs x (by simp [hx])) hd0)
    obtain ⟨b, rfl, hbb, hc⟩ := hd (by rw [hlc]; omega)
    have hcell : w.cell? ⟨b, ys.length, none⟩ = some (.int .u32 (d : Nat)) := by
      rw [hc ys.length (by rw [hlc]; omega), dg_in (by rw [hlc]; omega)]
      simp
    clear hc hlc
    have he : (((ys.length + 1 : Nat) : Int) == 0) = false := by simp; omega
    go_enter Try.func80, Try.ntmps80
    go_wp2
    go_loop [3, 4] (fun m t => ∃ i j : Nat, i ≤ 1000000 ∧ j ≤ 4294967295 ∧ m = .int .i64 i ∧ t = .int .u32 j ∧ i + bsize j = 32 * ys.length + bsize d) (fun _ t => (intOf t).toNat)
    case atStart => exact ⟨32 * ys.length, d, by omega, hd4, by go_num, rfl, rfl⟩
    case round =>
      obtain ⟨i, j, hi, hj, rfl, rfl, hij⟩ := hrel
      have hbd : bsize d ≤ 32 := by
        have := bsize_le hd0
        have h2 : 2 ^ (bsize d - 1) < 2 ^ 32 := by omega
        have := (Nat.pow_lt_pow_iff_right (by omega : 1 < 2)).1 h2
        omega
      have HIJ := Lib.hid hij
      clear hij
      by_cases hj0 : j = 0
      · subst hj0
        go_wp2
        go_ret
        refine ⟨ret_of ?_, rfl⟩
        have h1 := HIJ.out
        rw [bsize_zero, ← HT.out] at h1
        rw [← h1]
        rfl
      · have HB := Lib.hid (bsize_half (n := j) (by omega))
        go_wp2
        go_round
        case rel => exact ⟨i + 1, j / 2, by have := HIJ.out; have := HB.out; omega, by omega, by go_num, rfl, by have := HIJ.out; have := HB.out; omega⟩
        case measure => simp [intOf]; omega

theorem bit_mask (x j : Nat) (hx : x ≤ 4294967295) : (bits .and .u32 ((x : Int) / 2 ^ j) 1 == 1) = (x / 2 ^ j % 2 == 1) := by
  have h1 : ((x : Int) / 2 ^ j) = ((x / 2 ^ j : Nat) : Int) := by push_cast; rfl
  have h2 : x / 2 ^ j ≤ x := Nat.div_le_self _ _
  rw [h1, show (1 : Int) = ((1 : Nat) : Int) from rfl, u32_and_nat _ _ (by omega) (by omega), nat_mask1]
  rw [Bool.eq_iff_iff]
  simp only [beq_iff_eq]
  omega

theorem bit_any (v : Value) (n : Nat) (i : Nat) (w : World) (h : IsN w v n) (hb : bsize n ≤ 1000000) (hi : i ≤ 2000000) :
    Calls Try.prog 82 #[v, .int .i64 i] w fun e w' => e = .returned (.bool (n / 2 ^ i % 2 == 1)) ∧ w = w' := by
  obtain ⟨A, cap, xs, rfl, hl, hcap, hd, hs, hn, hv⟩ := h
  have hlen := len_lt hn
  rw [hv] at hlen
  have hsd := dval_bit xs hs (i / 32) (i % 32) (Nat.mod_lt _ (by omega))
  rw [Nat.div_add_mod] at hsd
  by_cases hk : i / 32 < xs.length
  · obtain ⟨b, rfl, hbb, hc⟩ := hd (by omega)
    have hcell := hc (i / 32) hk
    have hdd := small_dg hs (i / 32)
    have HV := Lib.hid hv
    have HS := Lib.hid hsd
    clear hc hv hsd
    go_enter Try.func82, Try.ntmps82
    go_wp2
    go_ret
    refine ⟨ret_of ?_, rfl⟩
    rw [← HV.out, HS.out, ← bit_mask _ _ hdd]
    rfl
  · have HV := Lib.hid hv
    have HS := Lib.hid hsd
    clear hv hsd
    go_enter Try.func82, Try.ntmps82
    go_wp2
    go_ret
    refine ⟨ret_of ?_, rfl⟩
    rw [← HV.out, HS.out, dg_out (by omega)]
    simp
theorem bit_is (v : Value) (n : Nat) (i : Int) (t : Bool) (w : World) (h : IsN w v n) (hb : bsize n ≤ 1000000) (h0 : 0 ≤ i) (h1 : i ≤ 2000000) (ht : (n / 2 ^ i.toNat % 2 == 1) = t) :
    Calls Try.prog 82 #[v, .int .i64 i] w fun e w' => e = .returned (.bool t) ∧ w = w' := by
  obtain ⟨k, rfl⟩ := Int.eq_ofNat_of_zero_le h0
  have := bit_any v n k w h hb (by omega)
  rw [Int.toNat_natCast] at ht
  rwa [ht] at this
end Go.Proofs.Ytdihbpfoalmlcaa
