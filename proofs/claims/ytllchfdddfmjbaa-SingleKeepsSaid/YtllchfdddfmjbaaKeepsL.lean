/- SingleKeeps (printed by a program of ours). -/
import Derived.Test.YtllchfdddfmjbaaKeepsP
import Derived.Test.YtllchfdddfmjbaaNarrow
import Derived.Test.YtllchfdddfmjbaaBel
namespace Go.Proofs.Ytllchfdddfmjbaa
open Go.RowKit Ieee
set_option linter.unusedVariables false

theorem notAbove_any (x y : Nat) (hx : x ≤ 4294967295) (hy : y ≤ 4294967295) (h : NotAb x y) (w : World) : Calls Try.prog 31 #[.int .u32 (x : Int), .int .u32 (y : Int)] w fun e w' => e = .returned (.bool true) ∧ w = w' := by
  by_cases hn : NoNum x ∨ NoNum y
  · have c1 := Lib.hid (fun W => Stand_is x y 1 (side_no x y hn) W)
    by_cases nx : NoNum x
    · have c2 := Lib.hid (fun W => isNone_any x hx true (decide_eq_true nx) W)
      clear hn h nx hx hy
      go_enter Try.func31, Try.ntmps31
      go_wp2_with fail
      refine (c1.out _).mono ?_
      rintro e w' ⟨rfl, rfl⟩
      go_wp2_with fail
      refine (c2.out _).mono ?_
      rintro e w' ⟨rfl, rfl⟩
      go_wp2
      go_ret
      exact ⟨rfl, rfl⟩
    · have c2 := Lib.hid (fun W => isNone_any x hx false (decide_eq_false nx) W)
      have c3 := Lib.hid (fun W => isNone_any y hy true (decide_eq_true (hn.resolve_left nx)) W)
      clear hn h nx hx hy
      go_enter Try.func31, Try.ntmps31
      go_wp2_with fail
      refine (c1.out _).mono ?_
      rintro e w' ⟨rfl, rfl⟩
      go_wp2_with fail
      refine (c2.out _).mono ?_
      rintro e w' ⟨rfl, rfl⟩
      go_wp2_with fail
      refine (c3.out _).mono ?_
      rintro e w' ⟨rfl, rfl⟩
      go_wp2
      go_ret
      exact ⟨rfl, rfl⟩
  · have nx : ¬ NoNum x := fun h => hn (.inl h)
    have ny : ¬ NoNum y := fun h => hn (.inr h)
    have hk : keyW x ≤ keyW y := by
      rcases h with h | h | h
      · exact absurd h nx
      · exact absurd h ny
      · exact h
    by_cases heq : keyW x = keyW y
    · have c1 := Lib.hid (fun W => Stand_is x y 3 (side_eq x y hx hy nx ny heq) W)
      clear hn h nx ny hx hy hk heq
      go_enter Try.func31, Try.ntmps31
      go_wp2_with fail
      refine (c1.out _).mono ?_
      rintro e w' ⟨rfl, rfl⟩
      go_wp2
      go_ret
      exact ⟨rfl, rfl⟩
    · have c1 := Lib.hid (fun W => Stand_is x y 2 (side_lt x y hx hy nx ny (by omega)) W)
      clear hn h nx ny hx hy hk heq
      go_enter Try.func31, Try.ntmps31
      go_wp2_with fail
      refine (c1.out _).mono ?_
      rintro e w' ⟨rfl, rfl⟩
      go_wp2
      go_ret
      exact ⟨rfl, rfl⟩

/-- A word stands above another, or not. -/
theorem side_four (a b : Nat) (ha : a ≤ 4294967295) (hb : b ≤ 4294967295) : (¬ NoNum a ∧ ¬ NoNum b ∧ keyW b < keyW a ∧ sideOf (single.order a b) = 4) ∨ (NotAb a b ∧ ∃ s : Nat, sideOf (single.order a b) = s ∧ ((s : Int) == 4) = false) := by
  by_cases nn : NoNum a ∨ NoNum b
  · right
    refine ⟨?_, 1, side_no a b nn, rfl⟩
    rcases nn with h | h
    · exact .inl h
    · exact .inr (.inl h)
  · have na : ¬ NoNum a := fun h => nn (.inl h)
    have nb : ¬ NoNum b := fun h => nn (.inr h)
    rcases Int.lt_trichotomy (keyW a) (keyW b) with h | h | h
    · exact .inr ⟨.inr (.inr (by omega)), 2, side_lt a b ha hb na nb h, rfl⟩
    · exact .inr ⟨.inr (.inr (by omega)), 3, side_eq a b ha hb na nb h, rfl⟩
    · exact .inl ⟨na, nb, h, side_gt a b ha hb na nb h⟩
theorem oneW_le (a : Nat) (h : a ≤ 4294967295) : oneW a ≤ 4294967295 := by unfold oneW; split <;> omega
theorem ofW_le (n : Int) : ofW n ≤ 4294967295 := by
  unfold ofW clean
  split
  · decide
  · exact (near_key _ _ 0 n rfl (fun _ => rfl)).1

set_option maxHeartbeats 2000000 in
theorem keeps_nnh (a b c : Nat) (ha : a ≤ 4294967295) (hb : b ≤ 4294967295) (hc : c ≤ 4294967295) (s t : Nat) (hs : sideOf (single.order a b) = s) (ht : sideOf (single.order c 0) = t)
    (hs4 : ((s : Int) == 4) = false) (ht4 : ((t : Int) == 4) = false) (hxy : NotAb a b)
    (N M : Int) (hN : IntKind.i32.wrap (a : Int) = N) (hM : IntKind.i32.wrap (b : Int) = M) (hlow : ¬ M < N) (w : World) :
    Calls Try.prog 7 #[.int .u32 (a : Int), .int .u32 (b : Int), .int .u32 (c : Int)] w (Ret w (.bool true)) := by
  have c0 := Lib.hid (fun W => Stand_is a b s hs W)
  have c1 := Lib.hid (fun W => notAbove_any a b ha hb hxy W)
  obtain ⟨S1, hS1⟩ : ∃ r, sumW a c = r := ⟨_, rfl⟩
  obtain ⟨S2, hS2⟩ : ∃ r, sumW b c = r := ⟨_, rfl⟩
  have c2 := Lib.hid (fun W => Sum_is a c S1 hS1 W)
  have c3 := Lib.hid (fun W => Sum_is b c S2 hS2 W)
  have c4 := Lib.hid (fun W => notAbove_any S1 S2 (hS1 ▸ sumW_le a c) (hS2 ▸ sumW_le b c) (by rw [← hS1, ← hS2]; exact sum_keep a b c ha hb hxy) W)
  obtain ⟨R1, hR1⟩ : ∃ r, rootW a = r := ⟨_, rfl⟩
  obtain ⟨R2, hR2⟩ : ∃ r, rootW b = r := ⟨_, rfl⟩
  have c5 := Lib.hid (fun W => Root_is a R1 ha hR1 W)
  have c6 := Lib.hid (fun W => Root_is b R2 hb hR2 W)
  have c7 := Lib.hid (fun W => notAbove_any R1 R2 (hR1 ▸ res_lt _) (hR2 ▸ res_lt _) (by rw [← hR1, ← hR2]; exact root_keep a b ha hb hxy) W)
  have c8 := Lib.hid (fun W => Stand_is c 0 t ht W)
  obtain ⟨X1, e1, e2⟩ := wide_back a ha
  obtain ⟨X2, e3, e4⟩ := wide_back b hb
  have E1 := Lib.hid e1
  have E2 := Lib.hid e2
  have E3 := Lib.hid e3
  have E4 := Lib.hid e4
  have d4 := Lib.hid (fun W => notAbove_any _ _ (oneW_le a ha) (oneW_le b hb) (one_keep a b hxy) W)
  obtain ⟨F1, hF1⟩ : ∃ r, ofW N = r := ⟨_, rfl⟩
  obtain ⟨F2, hF2⟩ : ∃ r, ofW M = r := ⟨_, rfl⟩
  have d5 := Lib.hid (fun W => Of_is N F1 hF1 W)
  have d6 := Lib.hid (fun W => Of_is M F2 hF2 W)
  have d7 := Lib.hid (fun W => notAbove_any F1 F2 (hF1 ▸ ofW_le _) (hF2 ▸ ofW_le _) (by rw [← hF1, ← hF2]; exact .inr (.inr (of_keep N M (by omega)).2.2)) W)
  have hd : decide (M < N) = false := decide_eq_false hlow


  clear hs ht hxy hS1 hS2 hR1 hR2  e1 e2 e3 e4 hF1 hF2 hlow ha hb hc
  go_enter Try.func7, Try.ntmps7
  go_wp2_with fail
  refine (c0.out _).mono ?_
  rintro e w' ⟨rfl, rfl⟩
  go_wp2_with fail
  refine (c1.out _).mono ?_
  rintro e w' ⟨rfl, rfl⟩
  go_wp2_with fail
  refine (c2.out _).mono ?_
  rintro e w' ⟨rfl, n1, rfl⟩
  go_wp2_with fail
  refine (c3.out _).mono ?_
  rintro e w' ⟨rfl, n2, rfl⟩
  go_wp2_with fail
  refine (c4.out _).mono ?_
  rintro e w' ⟨rfl, rfl⟩
  go_wp2_with fail
  refine (c5.out _).mono ?_
  rintro e w' ⟨rfl, n3, rfl⟩
  go_wp2_with fail
  refine (c6.out _).mono ?_
  rintro e w' ⟨rfl, n4, rfl⟩
  go_wp2_with fail
  refine (c7.out _).mono ?_
  rintro e w' ⟨rfl, rfl⟩
  go_wp2_with fail
  refine (c8.out _).mono ?_
  rintro e w' ⟨rfl, rfl⟩
  go_wp2_with fail
  refine (E1.out _).mono ?_
  rintro e w' ⟨rfl, rfl⟩
  go_wp2_with fail
  refine (E2.out _).mono ?_
  rintro e w' ⟨rfl, n7, rfl⟩
  go_wp2_with fail
  refine (E3.out _).mono ?_
  rintro e w' ⟨rfl, rfl⟩
  go_wp2_with fail
  refine (E4.out _).mono ?_
  rintro e w' ⟨rfl, n8, rfl⟩
  go_wp2_with fail
  refine (d4.out _).mono ?_
  rintro e w' ⟨rfl, rfl⟩
  go_wp2_with fail
  refine (d5.out _).mono ?_
  rintro e w' ⟨rfl, rfl⟩
  go_wp2_with fail
  refine (d6.out _).mono ?_
  rintro e w' ⟨rfl, rfl⟩
  go_wp2_with fail
  refine (d7.out _).mono ?_
  rintro e w' ⟨rfl, rfl⟩
  go_wp2_with fail
  refine (awake_any _).mono ?_
  rintro e w' ⟨rfl, n9, rfl⟩
  go_wp2
  go_ret
  exact ⟨rfl, by repeat (first | exact Below.refl _ _ | refine bs_drew ?_ | refine bs_drewN ?_ _)⟩

set_option maxHeartbeats 2000000 in
theorem keeps_nnl (a b c : Nat) (ha : a ≤ 4294967295) (hb : b ≤ 4294967295) (hc : c ≤ 4294967295) (s t : Nat) (hs : sideOf (single.order a b) = s) (ht : sideOf (single.order c 0) = t)
    (hs4 : ((s : Int) == 4) = false) (ht4 : ((t : Int) == 4) = false) (hxy : NotAb a b)
    (N M : Int) (hN : IntKind.i32.wrap (a : Int) = N) (hM : IntKind.i32.wrap (b : Int) = M) (hlow : M < N) (w : World) :
    Calls Try.prog 7 #[.int .u32 (a : Int), .int .u32 (b : Int), .int .u32 (c : Int)] w (Ret w (.bool true)) := by
  have c0 := Lib.hid (fun W => Stand_is a b s hs W)
  have c1 := Lib.hid (fun W => notAbove_any a b ha hb hxy W)
  obtain ⟨S1, hS1⟩ : ∃ r, sumW a c = r := ⟨_, rfl⟩
  obtain ⟨S2, hS2⟩ : ∃ r, sumW b c = r := ⟨_, rfl⟩
  have c2 := Lib.hid (fun W => Sum_is a c S1 hS1 W)
  have c3 := Lib.hid (fun W => Sum_is b c S2 hS2 W)
  have c4 := Lib.hid (fun W => notAbove_any S1 S2 (hS1 ▸ sumW_le a c) (hS2 ▸ sumW_le b c) (by rw [← hS1, ← hS2]; exact sum_keep a b c ha hb hxy) W)
  obtain ⟨R1, hR1⟩ : ∃ r, rootW a = r := ⟨_, rfl⟩
  obtain ⟨R2, hR2⟩ : ∃ r, rootW b = r := ⟨_, rfl⟩
  have c5 := Lib.hid (fun W => Root_is a R1 ha hR1 W)
  have c6 := Lib.hid (fun W => Root_is b R2 hb hR2 W)
  have c7 := Lib.hid (fun W => notAbove_any R1 R2 (hR1 ▸ res_lt _) (hR2 ▸ res_lt _) (by rw [← hR1, ← hR2]; exact root_keep a b ha hb hxy) W)
  have c8 := Lib.hid (fun W => Stand_is c 0 t ht W)
  obtain ⟨X1, e1, e2⟩ := wide_back a ha
  obtain ⟨X2, e3, e4⟩ := wide_back b hb
  have E1 := Lib.hid e1
  have E2 := Lib.hid e2
  have E3 := Lib.hid e3
  have E4 := Lib.hid e4
  have d4 := Lib.hid (fun W => notAbove_any _ _ (oneW_le a ha) (oneW_le b hb) (one_keep a b hxy) W)
  obtain ⟨F1, hF1⟩ : ∃ r, ofW M = r := ⟨_, rfl⟩
  obtain ⟨F2, hF2⟩ : ∃ r, ofW N = r := ⟨_, rfl⟩
  have d5 := Lib.hid (fun W => Of_is M F1 hF1 W)
  have d6 := Lib.hid (fun W => Of_is N F2 hF2 W)
  have d7 := Lib.hid (fun W => notAbove_any F1 F2 (hF1 ▸ ofW_le _) (hF2 ▸ ofW_le _) (by rw [← hF1, ← hF2]; exact .inr (.inr (of_keep M N (by omega)).2.2)) W)
  have hd : decide (M < N) = true := decide_eq_true hlow


  clear hs ht hxy hS1 hS2 hR1 hR2  e1 e2 e3 e4 hF1 hF2 hlow ha hb hc
  go_enter Try.func7, Try.ntmps7
  go_wp2_with fail
  refine (c0.out _).mono ?_
  rintro e w' ⟨rfl, rfl⟩
  go_wp2_with fail
  refine (c1.out _).mono ?_
  rintro e w' ⟨rfl, rfl⟩
  go_wp2_with fail
  refine (c2.out _).mono ?_
  rintro e w' ⟨rfl, n1, rfl⟩
  go_wp2_with fail
  refine (c3.out _).mono ?_
  rintro e w' ⟨rfl, n2, rfl⟩
  go_wp2_with fail
  refine (c4.out _).mono ?_
  rintro e w' ⟨rfl, rfl⟩
  go_wp2_with fail
  refine (c5.out _).mono ?_
  rintro e w' ⟨rfl, n3, rfl⟩
  go_wp2_with fail
  refine (c6.out _).mono ?_
  rintro e w' ⟨rfl, n4, rfl⟩
  go_wp2_with fail
  refine (c7.out _).mono ?_
  rintro e w' ⟨rfl, rfl⟩
  go_wp2_with fail
  refine (c8.out _).mono ?_
  rintro e w' ⟨rfl, rfl⟩
  go_wp2_with fail
  refine (E1.out _).mono ?_
  rintro e w' ⟨rfl, rfl⟩
  go_wp2_with fail
  refine (E2.out _).mono ?_
  rintro e w' ⟨rfl, n7, rfl⟩
  go_wp2_with fail
  refine (E3.out _).mono ?_
  rintro e w' ⟨rfl, rfl⟩
  go_wp2_with fail
  refine (E4.out _).mono ?_
  rintro e w' ⟨rfl, n8, rfl⟩
  go_wp2_with fail
  refine (d4.out _).mono ?_
  rintro e w' ⟨rfl, rfl⟩
  go_wp2_with fail
  refine (d5.out _).mono ?_
  rintro e w' ⟨rfl, rfl⟩
  go_wp2_with fail
  refine (d6.out _).mono ?_
  rintro e w' ⟨rfl, rfl⟩
  go_wp2_with fail
  refine (d7.out _).mono ?_
  rintro e w' ⟨rfl, rfl⟩
  go_wp2_with fail
  refine (awake_any _).mono ?_
  rintro e w' ⟨rfl, n9, rfl⟩
  go_wp2
  go_ret
  exact ⟨rfl, by repeat (first | exact Below.refl _ _ | refine bs_drew ?_ | refine bs_drewN ?_ _)⟩

set_option maxHeartbeats 2000000 in
theorem keeps_nph (a b c : Nat) (ha : a ≤ 4294967295) (hb : b ≤ 4294967295) (hc : c ≤ 4294967295) (s t : Nat) (hs : sideOf (single.order a b) = s) (ht : sideOf (single.order c 0) = t)
    (hs4 : ((s : Int) == 4) = false) (ht4 : t = 4) (hcp : ¬ NoNum c ∧ 0 < keyW c) (hxy : NotAb a b)
    (N M : Int) (hN : IntKind.i32.wrap (a : Int) = N) (hM : IntKind.i32.wrap (b : Int) = M) (hlow : ¬ M < N) (w : World) :
    Calls Try.prog 7 #[.int .u32 (a : Int), .int .u32 (b : Int), .int .u32 (c : Int)] w (Ret w (.bool true)) := by
  have c0 := Lib.hid (fun W => Stand_is a b s hs W)
  have c1 := Lib.hid (fun W => notAbove_any a b ha hb hxy W)
  obtain ⟨S1, hS1⟩ : ∃ r, sumW a c = r := ⟨_, rfl⟩
  obtain ⟨S2, hS2⟩ : ∃ r, sumW b c = r := ⟨_, rfl⟩
  have c2 := Lib.hid (fun W => Sum_is a c S1 hS1 W)
  have c3 := Lib.hid (fun W => Sum_is b c S2 hS2 W)
  have c4 := Lib.hid (fun W => notAbove_any S1 S2 (hS1 ▸ sumW_le a c) (hS2 ▸ sumW_le b c) (by rw [← hS1, ← hS2]; exact sum_keep a b c ha hb hxy) W)
  obtain ⟨R1, hR1⟩ : ∃ r, rootW a = r := ⟨_, rfl⟩
  obtain ⟨R2, hR2⟩ : ∃ r, rootW b = r := ⟨_, rfl⟩
  have c5 := Lib.hid (fun W => Root_is a R1 ha hR1 W)
  have c6 := Lib.hid (fun W => Root_is b R2 hb hR2 W)
  have c7 := Lib.hid (fun W => notAbove_any R1 R2 (hR1 ▸ res_lt _) (hR2 ▸ res_lt _) (by rw [← hR1, ← hR2]; exact root_keep a b ha hb hxy) W)
  have c8 := Lib.hid (fun W => Stand_is c 0 t ht W)
  obtain ⟨P1, hP1⟩ : ∃ r, productW a c = r := ⟨_, rfl⟩
  obtain ⟨P2, hP2⟩ : ∃ r, productW b c = r := ⟨_, rfl⟩
  have d1 := Lib.hid (fun W => Product_is a c P1 hP1 W)
  have d2 := Lib.hid (fun W => Product_is b c P2 hP2 W)
  have d3 := Lib.hid (fun W => notAbove_any P1 P2 (hP1 ▸ productW_le a c) (hP2 ▸ productW_le b c) (by rw [← hP1, ← hP2]; exact product_keep a b c ha hb hc hcp.1 hcp.2 hxy) W)
  obtain ⟨X1, e1, e2⟩ := wide_back a ha
  obtain ⟨X2, e3, e4⟩ := wide_back b hb
  have E1 := Lib.hid e1
  have E2 := Lib.hid e2
  have E3 := Lib.hid e3
  have E4 := Lib.hid e4
  have d4 := Lib.hid (fun W => notAbove_any _ _ (oneW_le a ha) (oneW_le b hb) (one_keep a b hxy) W)
  obtain ⟨F1, hF1⟩ : ∃ r, ofW N = r := ⟨_, rfl⟩
  obtain ⟨F2, hF2⟩ : ∃ r, ofW M = r := ⟨_, rfl⟩
  have d5 := Lib.hid (fun W => Of_is N F1 hF1 W)
  have d6 := Lib.hid (fun W => Of_is M F2 hF2 W)
  have d7 := Lib.hid (fun W => notAbove_any F1 F2 (hF1 ▸ ofW_le _) (hF2 ▸ ofW_le _) (by rw [← hF1, ← hF2]; exact .inr (.inr (of_keep N M (by omega)).2.2)) W)
  have hd : decide (M < N) = false := decide_eq_false hlow

  subst ht4
  clear hs ht hxy hS1 hS2 hR1 hR2 hP1 hP2 hcp e1 e2 e3 e4 hF1 hF2 hlow ha hb hc
  go_enter Try.func7, Try.ntmps7
  go_wp2_with fail
  refine (c0.out _).mono ?_
  rintro e w' ⟨rfl, rfl⟩
  go_wp2_with fail
  refine (c1.out _).mono ?_
  rintro e w' ⟨rfl, rfl⟩
  go_wp2_with fail
  refine (c2.out _).mono ?_
  rintro e w' ⟨rfl, n1, rfl⟩
  go_wp2_with fail
  refine (c3.out _).mono ?_
  rintro e w' ⟨rfl, n2, rfl⟩
  go_wp2_with fail
  refine (c4.out _).mono ?_
  rintro e w' ⟨rfl, rfl⟩
  go_wp2_with fail
  refine (c5.out _).mono ?_
  rintro e w' ⟨rfl, n3, rfl⟩
  go_wp2_with fail
  refine (c6.out _).mono ?_
  rintro e w' ⟨rfl, n4, rfl⟩
  go_wp2_with fail
  refine (c7.out _).mono ?_
  rintro e w' ⟨rfl, rfl⟩
  go_wp2_with fail
  refine (c8.out _).mono ?_
  rintro e w' ⟨rfl, rfl⟩
  go_wp2_with fail
  refine (d1.out _).mono ?_
  rintro e w' ⟨rfl, n5, rfl⟩
  go_wp2_with fail
  refine (d2.out _).mono ?_
  rintro e w' ⟨rfl, n6, rfl⟩
  go_wp2_with fail
  refine (d3.out _).mono ?_
  rintro e w' ⟨rfl, rfl⟩
  go_wp2_with fail
  refine (E1.out _).mono ?_
  rintro e w' ⟨rfl, rfl⟩
  go_wp2_with fail
  refine (E2.out _).mono ?_
  rintro e w' ⟨rfl, n7, rfl⟩
  go_wp2_with fail
  refine (E3.out _).mono ?_
  rintro e w' ⟨rfl, rfl⟩
  go_wp2_with fail
  refine (E4.out _).mono ?_
  rintro e w' ⟨rfl, n8, rfl⟩
  go_wp2_with fail
  refine (d4.out _).mono ?_
  rintro e w' ⟨rfl, rfl⟩
  go_wp2_with fail
  refine (d5.out _).mono ?_
  rintro e w' ⟨rfl, rfl⟩
  go_wp2_with fail
  refine (d6.out _).mono ?_
  rintro e w' ⟨rfl, rfl⟩
  go_wp2_with fail
  refine (d7.out _).mono ?_
  rintro e w' ⟨rfl, rfl⟩
  go_wp2_with fail
  refine (awake_any _).mono ?_
  rintro e w' ⟨rfl, n9, rfl⟩
  go_wp2
  go_ret
  exact ⟨rfl, by repeat (first | exact Below.refl _ _ | refine bs_drew ?_ | refine bs_drewN ?_ _)⟩

set_option maxHeartbeats 2000000 in
theorem keeps_npl (a b c : Nat) (ha : a ≤ 4294967295) (hb : b ≤ 4294967295) (hc : c ≤ 4294967295) (s t : Nat) (hs : sideOf (single.order a b) = s) (ht : sideOf (single.order c 0) = t)
    (hs4 : ((s : Int) == 4) = false) (ht4 : t = 4) (hcp : ¬ NoNum c ∧ 0 < keyW c) (hxy : NotAb a b)
    (N M : Int) (hN : IntKind.i32.wrap (a : Int) = N) (hM : IntKind.i32.wrap (b : Int) = M) (hlow : M < N) (w : World) :
    Calls Try.prog 7 #[.int .u32 (a : Int), .int .u32 (b : Int), .int .u32 (c : Int)] w (Ret w (.bool true)) := by
  have c0 := Lib.hid (fun W => Stand_is a b s hs W)
  have c1 := Lib.hid (fun W => notAbove_any a b ha hb hxy W)
  obtain ⟨S1, hS1⟩ : ∃ r, sumW a c = r := ⟨_, rfl⟩
  obtain ⟨S2, hS2⟩ : ∃ r, sumW b c = r := ⟨_, rfl⟩
  have c2 := Lib.hid (fun W => Sum_is a c S1 hS1 W)
  have c3 := Lib.hid (fun W => Sum_is b c S2 hS2 W)
  have c4 := Lib.hid (fun W => notAbove_any S1 S2 (hS1 ▸ sumW_le a c) (hS2 ▸ sumW_le b c) (by rw [← hS1, ← hS2]; exact sum_keep a b c ha hb hxy) W)
  obtain ⟨R1, hR1⟩ : ∃ r, rootW a = r := ⟨_, rfl⟩
  obtain ⟨R2, hR2⟩ : ∃ r, rootW b = r := ⟨_, rfl⟩
  have c5 := Lib.hid (fun W => Root_is a R1 ha hR1 W)
  have c6 := Lib.hid (fun W => Root_is b R2 hb hR2 W)
  have c7 := Lib.hid (fun W => notAbove_any R1 R2 (hR1 ▸ res_lt _) (hR2 ▸ res_lt _) (by rw [← hR1, ← hR2]; exact root_keep a b ha hb hxy) W)
  have c8 := Lib.hid (fun W => Stand_is c 0 t ht W)
  obtain ⟨P1, hP1⟩ : ∃ r, productW a c = r := ⟨_, rfl⟩
  obtain ⟨P2, hP2⟩ : ∃ r, productW b c = r := ⟨_, rfl⟩
  have d1 := Lib.hid (fun W => Product_is a c P1 hP1 W)
  have d2 := Lib.hid (fun W => Product_is b c P2 hP2 W)
  have d3 := Lib.hid (fun W => notAbove_any P1 P2 (hP1 ▸ productW_le a c) (hP2 ▸ productW_le b c) (by rw [← hP1, ← hP2]; exact product_keep a b c ha hb hc hcp.1 hcp.2 hxy) W)
  obtain ⟨X1, e1, e2⟩ := wide_back a ha
  obtain ⟨X2, e3, e4⟩ := wide_back b hb
  have E1 := Lib.hid e1
  have E2 := Lib.hid e2
  have E3 := Lib.hid e3
  have E4 := Lib.hid e4
  have d4 := Lib.hid (fun W => notAbove_any _ _ (oneW_le a ha) (oneW_le b hb) (one_keep a b hxy) W)
  obtain ⟨F1, hF1⟩ : ∃ r, ofW M = r := ⟨_, rfl⟩
  obtain ⟨F2, hF2⟩ : ∃ r, ofW N = r := ⟨_, rfl⟩
  have d5 := Lib.hid (fun W => Of_is M F1 hF1 W)
  have d6 := Lib.hid (fun W => Of_is N F2 hF2 W)
  have d7 := Lib.hid (fun W => notAbove_any F1 F2 (hF1 ▸ ofW_le _) (hF2 ▸ ofW_le _) (by rw [← hF1, ← hF2]; exact .inr (.inr (of_keep M N (by omega)).2.2)) W)
  have hd : decide (M < N) = true := decide_eq_true hlow

  subst ht4
  clear hs ht hxy hS1 hS2 hR1 hR2 hP1 hP2 hcp e1 e2 e3 e4 hF1 hF2 hlow ha hb hc
  go_enter Try.func7, Try.ntmps7
  go_wp2_with fail
  refine (c0.out _).mono ?_
  rintro e w' ⟨rfl, rfl⟩
  go_wp2_with fail
  refine (c1.out _).mono ?_
  rintro e w' ⟨rfl, rfl⟩
  go_wp2_with fail
  refine (c2.out _).mono ?_
  rintro e w' ⟨rfl, n1, rfl⟩
  go_wp2_with fail
  refine (c3.out _).mono ?_
  rintro e w' ⟨rfl, n2, rfl⟩
  go_wp2_with fail
  refine (c4.out _).mono ?_
  rintro e w' ⟨rfl, rfl⟩
  go_wp2_with fail
  refine (c5.out _).mono ?_
  rintro e w' ⟨rfl, n3, rfl⟩
  go_wp2_with fail
  refine (c6.out _).mono ?_
  rintro e w' ⟨rfl, n4, rfl⟩
  go_wp2_with fail
  refine (c7.out _).mono ?_
  rintro e w' ⟨rfl, rfl⟩
  go_wp2_with fail
  refine (c8.out _).mono ?_
  rintro e w' ⟨rfl, rfl⟩
  go_wp2_with fail
  refine (d1.out _).mono ?_
  rintro e w' ⟨rfl, n5, rfl⟩
  go_wp2_with fail
  refine (d2.out _).mono ?_
  rintro e w' ⟨rfl, n6, rfl⟩
  go_wp2_with fail
  refine (d3.out _).mono ?_
  rintro e w' ⟨rfl, rfl⟩
  go_wp2_with fail
  refine (E1.out _).mono ?_
  rintro e w' ⟨rfl, rfl⟩
  go_wp2_with fail
  refine (E2.out _).mono ?_
  rintro e w' ⟨rfl, n7, rfl⟩
  go_wp2_with fail
  refine (E3.out _).mono ?_
  rintro e w' ⟨rfl, rfl⟩
  go_wp2_with fail
  refine (E4.out _).mono ?_
  rintro e w' ⟨rfl, n8, rfl⟩
  go_wp2_with fail
  refine (d4.out _).mono ?_
  rintro e w' ⟨rfl, rfl⟩
  go_wp2_with fail
  refine (d5.out _).mono ?_
  rintro e w' ⟨rfl, rfl⟩
  go_wp2_with fail
  refine (d6.out _).mono ?_
  rintro e w' ⟨rfl, rfl⟩
  go_wp2_with fail
  refine (d7.out _).mono ?_
  rintro e w' ⟨rfl, rfl⟩
  go_wp2_with fail
  refine (awake_any _).mono ?_
  rintro e w' ⟨rfl, n9, rfl⟩
  go_wp2
  go_ret
  exact ⟨rfl, by repeat (first | exact Below.refl _ _ | refine bs_drew ?_ | refine bs_drewN ?_ _)⟩

set_option maxHeartbeats 2000000 in
theorem keeps_snh (a b c : Nat) (ha : a ≤ 4294967295) (hb : b ≤ 4294967295) (hc : c ≤ 4294967295) (s t : Nat) (hs : sideOf (single.order a b) = s) (ht : sideOf (single.order c 0) = t)
    (hs4 : s = 4) (ht4 : ((t : Int) == 4) = false) (hxy : NotAb b a)
    (N M : Int) (hN : IntKind.i32.wrap (a : Int) = N) (hM : IntKind.i32.wrap (b : Int) = M) (hlow : ¬ M < N) (w : World) :
    Calls Try.prog 7 #[.int .u32 (a : Int), .int .u32 (b : Int), .int .u32 (c : Int)] w (Ret w (.bool true)) := by
  have c0 := Lib.hid (fun W => Stand_is a b s hs W)
  have c1 := Lib.hid (fun W => notAbove_any b a hb ha hxy W)
  obtain ⟨S1, hS1⟩ : ∃ r, sumW b c = r := ⟨_, rfl⟩
  obtain ⟨S2, hS2⟩ : ∃ r, sumW a c = r := ⟨_, rfl⟩
  have c2 := Lib.hid (fun W => Sum_is b c S1 hS1 W)
  have c3 := Lib.hid (fun W => Sum_is a c S2 hS2 W)
  have c4 := Lib.hid (fun W => notAbove_any S1 S2 (hS1 ▸ sumW_le b c) (hS2 ▸ sumW_le a c) (by rw [← hS1, ← hS2]; exact sum_keep b a c hb ha hxy) W)
  obtain ⟨R1, hR1⟩ : ∃ r, rootW b = r := ⟨_, rfl⟩
  obtain ⟨R2, hR2⟩ : ∃ r, rootW a = r := ⟨_, rfl⟩
  have c5 := Lib.hid (fun W => Root_is b R1 hb hR1 W)
  have c6 := Lib.hid (fun W => Root_is a R2 ha hR2 W)
  have c7 := Lib.hid (fun W => notAbove_any R1 R2 (hR1 ▸ res_lt _) (hR2 ▸ res_lt _) (by rw [← hR1, ← hR2]; exact root_keep b a hb ha hxy) W)
  have c8 := Lib.hid (fun W => Stand_is c 0 t ht W)
  obtain ⟨X1, e1, e2⟩ := wide_back b hb
  obtain ⟨X2, e3, e4⟩ := wide_back a ha
  have E1 := Lib.hid e1
  have E2 := Lib.hid e2
  have E3 := Lib.hid e3
  have E4 := Lib.hid e4
  have d4 := Lib.hid (fun W => notAbove_any _ _ (oneW_le b hb) (oneW_le a ha) (one_keep b a hxy) W)
  obtain ⟨F1, hF1⟩ : ∃ r, ofW N = r := ⟨_, rfl⟩
  obtain ⟨F2, hF2⟩ : ∃ r, ofW M = r := ⟨_, rfl⟩
  have d5 := Lib.hid (fun W => Of_is N F1 hF1 W)
  have d6 := Lib.hid (fun W => Of_is M F2 hF2 W)
  have d7 := Lib.hid (fun W => notAbove_any F1 F2 (hF1 ▸ ofW_le _) (hF2 ▸ ofW_le _) (by rw [← hF1, ← hF2]; exact .inr (.inr (of_keep N M (by omega)).2.2)) W)
  have hd : decide (M < N) = false := decide_eq_false hlow
  subst hs4

  clear hs ht hxy hS1 hS2 hR1 hR2  e1 e2 e3 e4 hF1 hF2 hlow ha hb hc
  go_enter Try.func7, Try.ntmps7
  go_wp2_with fail
  refine (c0.out _).mono ?_
  rintro e w' ⟨rfl, rfl⟩
  go_wp2_with fail
  refine (c1.out _).mono ?_
  rintro e w' ⟨rfl, rfl⟩
  go_wp2_with fail
  refine (c2.out _).mono ?_
  rintro e w' ⟨rfl, n1, rfl⟩
  go_wp2_with fail
  refine (c3.out _).mono ?_
  rintro e w' ⟨rfl, n2, rfl⟩
  go_wp2_with fail
  refine (c4.out _).mono ?_
  rintro e w' ⟨rfl, rfl⟩
  go_wp2_with fail
  refine (c5.out _).mono ?_
  rintro e w' ⟨rfl, n3, rfl⟩
  go_wp2_with fail
  refine (c6.out _).mono ?_
  rintro e w' ⟨rfl, n4, rfl⟩
  go_wp2_with fail
  refine (c7.out _).mono ?_
  rintro e w' ⟨rfl, rfl⟩
  go_wp2_with fail
  refine (c8.out _).mono ?_
  rintro e w' ⟨rfl, rfl⟩
  go_wp2_with fail
  refine (E1.out _).mono ?_
  rintro e w' ⟨rfl, rfl⟩
  go_wp2_with fail
  refine (E2.out _).mono ?_
  rintro e w' ⟨rfl, n7, rfl⟩
  go_wp2_with fail
  refine (E3.out _).mono ?_
  rintro e w' ⟨rfl, rfl⟩
  go_wp2_with fail
  refine (E4.out _).mono ?_
  rintro e w' ⟨rfl, n8, rfl⟩
  go_wp2_with fail
  refine (d4.out _).mono ?_
  rintro e w' ⟨rfl, rfl⟩
  go_wp2_with fail
  refine (d5.out _).mono ?_
  rintro e w' ⟨rfl, rfl⟩
  go_wp2_with fail
  refine (d6.out _).mono ?_
  rintro e w' ⟨rfl, rfl⟩
  go_wp2_with fail
  refine (d7.out _).mono ?_
  rintro e w' ⟨rfl, rfl⟩
  go_wp2_with fail
  refine (awake_any _).mono ?_
  rintro e w' ⟨rfl, n9, rfl⟩
  go_wp2
  go_ret
  exact ⟨rfl, by repeat (first | exact Below.refl _ _ | refine bs_drew ?_ | refine bs_drewN ?_ _)⟩

set_option maxHeartbeats 2000000 in
theorem keeps_snl (a b c : Nat) (ha : a ≤ 4294967295) (hb : b ≤ 4294967295) (hc : c ≤ 4294967295) (s t : Nat) (hs : sideOf (single.order a b) = s) (ht : sideOf (single.order c 0) = t)
    (hs4 : s = 4) (ht4 : ((t : Int) == 4) = false) (hxy : NotAb b a)
    (N M : Int) (hN : IntKind.i32.wrap (a : Int) = N) (hM : IntKind.i32.wrap (b : Int) = M) (hlow : M < N) (w : World) :
    Calls Try.prog 7 #[.int .u32 (a : Int), .int .u32 (b : Int), .int .u32 (c : Int)] w (Ret w (.bool true)) := by
  have c0 := Lib.hid (fun W => Stand_is a b s hs W)
  have c1 := Lib.hid (fun W => notAbove_any b a hb ha hxy W)
  obtain ⟨S1, hS1⟩ : ∃ r, sumW b c = r := ⟨_, rfl⟩
  obtain ⟨S2, hS2⟩ : ∃ r, sumW a c = r := ⟨_, rfl⟩
  have c2 := Lib.hid (fun W => Sum_is b c S1 hS1 W)
  have c3 := Lib.hid (fun W => Sum_is a c S2 hS2 W)
  have c4 := Lib.hid (fun W => notAbove_any S1 S2 (hS1 ▸ sumW_le b c) (hS2 ▸ sumW_le a c) (by rw [← hS1, ← hS2]; exact sum_keep b a c hb ha hxy) W)
  obtain ⟨R1, hR1⟩ : ∃ r, rootW b = r := ⟨_, rfl⟩
  obtain ⟨R2, hR2⟩ : ∃ r, rootW a = r := ⟨_, rfl⟩
  have c5 := Lib.hid (fun W => Root_is b R1 hb hR1 W)
  have c6 := Lib.hid (fun W => Root_is a R2 ha hR2 W)
  have c7 := Lib.hid (fun W => notAbove_any R1 R2 (hR1 ▸ res_lt _) (hR2 ▸ res_lt _) (by rw [← hR1, ← hR2]; exact root_keep b a hb ha hxy) W)
  have c8 := Lib.hid (fun W => Stand_is c 0 t ht W)
  obtain ⟨X1, e1, e2⟩ := wide_back b hb
  obtain ⟨X2, e3, e4⟩ := wide_back a ha
  have E1 := Lib.hid e1
  have E2 := Lib.hid e2
  have E3 := Lib.hid e3
  have E4 := Lib.hid e4
  have d4 := Lib.hid (fun W => notAbove_any _ _ (oneW_le b hb) (oneW_le a ha) (one_keep b a hxy) W)
  obtain ⟨F1, hF1⟩ : ∃ r, ofW M = r := ⟨_, rfl⟩
  obtain ⟨F2, hF2⟩ : ∃ r, ofW N = r := ⟨_, rfl⟩
  have d5 := Lib.hid (fun W => Of_is M F1 hF1 W)
  have d6 := Lib.hid (fun W => Of_is N F2 hF2 W)
  have d7 := Lib.hid (fun W => notAbove_any F1 F2 (hF1 ▸ ofW_le _) (hF2 ▸ ofW_le _) (by rw [← hF1, ← hF2]; exact .inr (.inr (of_keep M N (by omega)).2.2)) W)
  have hd : decide (M < N) = true := decide_eq_true hlow
  subst hs4

  clear hs ht hxy hS1 hS2 hR1 hR2  e1 e2 e3 e4 hF1 hF2 hlow ha hb hc
  go_enter Try.func7, Try.ntmps7
  go_wp2_with fail
  refine (c0.out _).mono ?_
  rintro e w' ⟨rfl, rfl⟩
  go_wp2_with fail
  refine (c1.out _).mono ?_
  rintro e w' ⟨rfl, rfl⟩
  go_wp2_with fail
  refine (c2.out _).mono ?_
  rintro e w' ⟨rfl, n1, rfl⟩
  go_wp2_with fail
  refine (c3.out _).mono ?_
  rintro e w' ⟨rfl, n2, rfl⟩
  go_wp2_with fail
  refine (c4.out _).mono ?_
  rintro e w' ⟨rfl, rfl⟩
  go_wp2_with fail
  refine (c5.out _).mono ?_
  rintro e w' ⟨rfl, n3, rfl⟩
  go_wp2_with fail
  refine (c6.out _).mono ?_
  rintro e w' ⟨rfl, n4, rfl⟩
  go_wp2_with fail
  refine (c7.out _).mono ?_
  rintro e w' ⟨rfl, rfl⟩
  go_wp2_with fail
  refine (c8.out _).mono ?_
  rintro e w' ⟨rfl, rfl⟩
  go_wp2_with fail
  refine (E1.out _).mono ?_
  rintro e w' ⟨rfl, rfl⟩
  go_wp2_with fail
  refine (E2.out _).mono ?_
  rintro e w' ⟨rfl, n7, rfl⟩
  go_wp2_with fail
  refine (E3.out _).mono ?_
  rintro e w' ⟨rfl, rfl⟩
  go_wp2_with fail
  refine (E4.out _).mono ?_
  rintro e w' ⟨rfl, n8, rfl⟩
  go_wp2_with fail
  refine (d4.out _).mono ?_
  rintro e w' ⟨rfl, rfl⟩
  go_wp2_with fail
  refine (d5.out _).mono ?_
  rintro e w' ⟨rfl, rfl⟩
  go_wp2_with fail
  refine (d6.out _).mono ?_
  rintro e w' ⟨rfl, rfl⟩
  go_wp2_with fail
  refine (d7.out _).mono ?_
  rintro e w' ⟨rfl, rfl⟩
  go_wp2_with fail
  refine (awake_any _).mono ?_
  rintro e w' ⟨rfl, n9, rfl⟩
  go_wp2
  go_ret
  exact ⟨rfl, by repeat (first | exact Below.refl _ _ | refine bs_drew ?_ | refine bs_drewN ?_ _)⟩

set_option maxHeartbeats 2000000 in
theorem keeps_sph (a b c : Nat) (ha : a ≤ 4294967295) (hb : b ≤ 4294967295) (hc : c ≤ 4294967295) (s t : Nat) (hs : sideOf (single.order a b) = s) (ht : sideOf (single.order c 0) = t)
    (hs4 : s = 4) (ht4 : t = 4) (hcp : ¬ NoNum c ∧ 0 < keyW c) (hxy : NotAb b a)
    (N M : Int) (hN : IntKind.i32.wrap (a : Int) = N) (hM : IntKind.i32.wrap (b : Int) = M) (hlow : ¬ M < N) (w : World) :
    Calls Try.prog 7 #[.int .u32 (a : Int), .int .u32 (b : Int), .int .u32 (c : Int)] w (Ret w (.bool true)) := by
  have c0 := Lib.hid (fun W => Stand_is a b s hs W)
  have c1 := Lib.hid (fun W => notAbove_any b a hb ha hxy W)
  obtain ⟨S1, hS1⟩ : ∃ r, sumW b c = r := ⟨_, rfl⟩
  obtain ⟨S2, hS2⟩ : ∃ r, sumW a c = r := ⟨_, rfl⟩
  have c2 := Lib.hid (fun W => Sum_is b c S1 hS1 W)
  have c3 := Lib.hid (fun W => Sum_is a c S2 hS2 W)
  have c4 := Lib.hid (fun W => notAbove_any S1 S2 (hS1 ▸ sumW_le b c) (hS2 ▸ sumW_le a c) (by rw [← hS1, ← hS2]; exact sum_keep b a c hb ha hxy) W)
  obtain ⟨R1, hR1⟩ : ∃ r, rootW b = r := ⟨_, rfl⟩
  obtain ⟨R2, hR2⟩ : ∃ r, rootW a = r := ⟨_, rfl⟩
  have c5 := Lib.hid (fun W => Root_is b R1 hb hR1 W)
  have c6 := Lib.hid (fun W => Root_is a R2 ha hR2 W)
  have c7 := Lib.hid (fun W => notAbove_any R1 R2 (hR1 ▸ res_lt _) (hR2 ▸ res_lt _) (by rw [← hR1, ← hR2]; exact root_keep b a hb ha hxy) W)
  have c8 := Lib.hid (fun W => Stand_is c 0 t ht W)
  obtain ⟨P1, hP1⟩ : ∃ r, productW b c = r := ⟨_, rfl⟩
  obtain ⟨P2, hP2⟩ : ∃ r, productW a c = r := ⟨_, rfl⟩
  have d1 := Lib.hid (fun W => Product_is b c P1 hP1 W)
  have d2 := Lib.hid (fun W => Product_is a c P2 hP2 W)
  have d3 := Lib.hid (fun W => notAbove_any P1 P2 (hP1 ▸ productW_le b c) (hP2 ▸ productW_le a c) (by rw [← hP1, ← hP2]; exact product_keep b a c hb ha hc hcp.1 hcp.2 hxy) W)
  obtain ⟨X1, e1, e2⟩ := wide_back b hb
  obtain ⟨X2, e3, e4⟩ := wide_back a ha
  have E1 := Lib.hid e1
  have E2 := Lib.hid e2
  have E3 := Lib.hid e3
  have E4 := Lib.hid e4
  have d4 := Lib.hid (fun W => notAbove_any _ _ (oneW_le b hb) (oneW_le a ha) (one_keep b a hxy) W)
  obtain ⟨F1, hF1⟩ : ∃ r, ofW N = r := ⟨_, rfl⟩
  obtain ⟨F2, hF2⟩ : ∃ r, ofW M = r := ⟨_, rfl⟩
  have d5 := Lib.hid (fun W => Of_is N F1 hF1 W)
  have d6 := Lib.hid (fun W => Of_is M F2 hF2 W)
  have d7 := Lib.hid (fun W => notAbove_any F1 F2 (hF1 ▸ ofW_le _) (hF2 ▸ ofW_le _) (by rw [← hF1, ← hF2]; exact .inr (.inr (of_keep N M (by omega)).2.2)) W)
  have hd : decide (M < N) = false := decide_eq_false hlow
  subst hs4
  subst ht4
  clear hs ht hxy hS1 hS2 hR1 hR2 hP1 hP2 hcp e1 e2 e3 e4 hF1 hF2 hlow ha hb hc
  go_enter Try.func7, Try.ntmps7
  go_wp2_with fail
  refine (c0.out _).mono ?_
  rintro e w' ⟨rfl, rfl⟩
  go_wp2_with fail
  refine (c1.out _).mono ?_
  rintro e w' ⟨rfl, rfl⟩
  go_wp2_with fail
  refine (c2.out _).mono ?_
  rintro e w' ⟨rfl, n1, rfl⟩
  go_wp2_with fail
  refine (c3.out _).mono ?_
  rintro e w' ⟨rfl, n2, rfl⟩
  go_wp2_with fail
  refine (c4.out _).mono ?_
  rintro e w' ⟨rfl, rfl⟩
  go_wp2_with fail
  refine (c5.out _).mono ?_
  rintro e w' ⟨rfl, n3, rfl⟩
  go_wp2_with fail
  refine (c6.out _).mono ?_
  rintro e w' ⟨rfl, n4, rfl⟩
  go_wp2_with fail
  refine (c7.out _).mono ?_
  rintro e w' ⟨rfl, rfl⟩
  go_wp2_with fail
  refine (c8.out _).mono ?_
  rintro e w' ⟨rfl, rfl⟩
  go_wp2_with fail
  refine (d1.out _).mono ?_
  rintro e w' ⟨rfl, n5, rfl⟩
  go_wp2_with fail
  refine (d2.out _).mono ?_
  rintro e w' ⟨rfl, n6, rfl⟩
  go_wp2_with fail
  refine (d3.out _).mono ?_
  rintro e w' ⟨rfl, rfl⟩
  go_wp2_with fail
  refine (E1.out _).mono ?_
  rintro e w' ⟨rfl, rfl⟩
  go_wp2_with fail
  refine (E2.out _).mono ?_
  rintro e w' ⟨rfl, n7, rfl⟩
  go_wp2_with fail
  refine (E3.out _).mono ?_
  rintro e w' ⟨rfl, rfl⟩
  go_wp2_with fail
  refine (E4.out _).mono ?_
  rintro e w' ⟨rfl, n8, rfl⟩
  go_wp2_with fail
  refine (d4.out _).mono ?_
  rintro e w' ⟨rfl, rfl⟩
  go_wp2_with fail
  refine (d5.out _).mono ?_
  rintro e w' ⟨rfl, rfl⟩
  go_wp2_with fail
  refine (d6.out _).mono ?_
  rintro e w' ⟨rfl, rfl⟩
  go_wp2_with fail
  refine (d7.out _).mono ?_
  rintro e w' ⟨rfl, rfl⟩
  go_wp2_with fail
  refine (awake_any _).mono ?_
  rintro e w' ⟨rfl, n9, rfl⟩
  go_wp2
  go_ret
  exact ⟨rfl, by repeat (first | exact Below.refl _ _ | refine bs_drew ?_ | refine bs_drewN ?_ _)⟩

set_option maxHeartbeats 2000000 in
theorem keeps_spl (a b c : Nat) (ha : a ≤ 4294967295) (hb : b ≤ 4294967295) (hc : c ≤ 4294967295) (s t : Nat) (hs : sideOf (single.order a b) = s) (ht : sideOf (single.order c 0) = t)
    (hs4 : s = 4) (ht4 : t = 4) (hcp : ¬ NoNum c ∧ 0 < keyW c) (hxy : NotAb b a)
    (N M : Int) (hN : IntKind.i32.wrap (a : Int) = N) (hM : IntKind.i32.wrap (b : Int) = M) (hlow : M < N) (w : World) :
    Calls Try.prog 7 #[.int .u32 (a : Int), .int .u32 (b : Int), .int .u32 (c : Int)] w (Ret w (.bool true)) := by
  have c0 := Lib.hid (fun W => Stand_is a b s hs W)
  have c1 := Lib.hid (fun W => notAbove_any b a hb ha hxy W)
  obtain ⟨S1, hS1⟩ : ∃ r, sumW b c = r := ⟨_, rfl⟩
  obtain ⟨S2, hS2⟩ : ∃ r, sumW a c = r := ⟨_, rfl⟩
  have c2 := Lib.hid (fun W => Sum_is b c S1 hS1 W)
  have c3 := Lib.hid (fun W => Sum_is a c S2 hS2 W)
  have c4 := Lib.hid (fun W => notAbove_any S1 S2 (hS1 ▸ sumW_le b c) (hS2 ▸ sumW_le a c) (by rw [← hS1, ← hS2]; exact sum_keep b a c hb ha hxy) W)
  obtain ⟨R1, hR1⟩ : ∃ r, rootW b = r := ⟨_, rfl⟩
  obtain ⟨R2, hR2⟩ : ∃ r, rootW a = r := ⟨_, rfl⟩
  have c5 := Lib.hid (fun W => Root_is b R1 hb hR1 W)
  have c6 := Lib.hid (fun W => Root_is a R2 ha hR2 W)
  have c7 := Lib.hid (fun W => notAbove_any R1 R2 (hR1 ▸ res_lt _) (hR2 ▸ res_lt _) (by rw [← hR1, ← hR2]; exact root_keep b a hb ha hxy) W)
  have c8 := Lib.hid (fun W => Stand_is c 0 t ht W)
  obtain ⟨P1, hP1⟩ : ∃ r, productW b c = r := ⟨_, rfl⟩
  obtain ⟨P2, hP2⟩ : ∃ r, productW a c = r := ⟨_, rfl⟩
  have d1 := Lib.hid (fun W => Product_is b c P1 hP1 W)
  have d2 := Lib.hid (fun W => Product_is a c P2 hP2 W)
  have d3 := Lib.hid (fun W => notAbove_any P1 P2 (hP1 ▸ productW_le b c) (hP2 ▸ productW_le a c) (by rw [← hP1, ← hP2]; exact product_keep b a c hb ha hc hcp.1 hcp.2 hxy) W)
  obtain ⟨X1, e1, e2⟩ := wide_back b hb
  obtain ⟨X2, e3, e4⟩ := wide_back a ha
  have E1 := Lib.hid e1
  have E2 := Lib.hid e2
  have E3 := Lib.hid e3
  have E4 := Lib.hid e4
  have d4 := Lib.hid (fun W => notAbove_any _ _ (oneW_le b hb) (oneW_le a ha) (one_keep b a hxy) W)
  obtain ⟨F1, hF1⟩ : ∃ r, ofW M = r := ⟨_, rfl⟩
  obtain ⟨F2, hF2⟩ : ∃ r, ofW N = r := ⟨_, rfl⟩
  have d5 := Lib.hid (fun W => Of_is M F1 hF1 W)
  have d6 := Lib.hid (fun W => Of_is N F2 hF2 W)
  have d7 := Lib.hid (fun W => notAbove_any F1 F2 (hF1 ▸ ofW_le _) (hF2 ▸ ofW_le _) (by rw [← hF1, ← hF2]; exact .inr (.inr (of_keep M N (by omega)).2.2)) W)
  have hd : decide (M < N) = true := decide_eq_true hlow
  subst hs4
  subst ht4
  clear hs ht hxy hS1 hS2 hR1 hR2 hP1 hP2 hcp e1 e2 e3 e4 hF1 hF2 hlow ha hb hc
  go_enter Try.func7, Try.ntmps7
  go_wp2_with fail
  refine (c0.out _).mono ?_
  rintro e w' ⟨rfl, rfl⟩
  go_wp2_with fail
  refine (c1.out _).mono ?_
  rintro e w' ⟨rfl, rfl⟩
  go_wp2_with fail
  refine (c2.out _).mono ?_
  rintro e w' ⟨rfl, n1, rfl⟩
  go_wp2_with fail
  refine (c3.out _).mono ?_
  rintro e w' ⟨rfl, n2, rfl⟩
  go_wp2_with fail
  refine (c4.out _).mono ?_
  rintro e w' ⟨rfl, rfl⟩
  go_wp2_with fail
  refine (c5.out _).mono ?_
  rintro e w' ⟨rfl, n3, rfl⟩
  go_wp2_with fail
  refine (c6.out _).mono ?_
  rintro e w' ⟨rfl, n4, rfl⟩
  go_wp2_with fail
  refine (c7.out _).mono ?_
  rintro e w' ⟨rfl, rfl⟩
  go_wp2_with fail
  refine (c8.out _).mono ?_
  rintro e w' ⟨rfl, rfl⟩
  go_wp2_with fail
  refine (d1.out _).mono ?_
  rintro e w' ⟨rfl, n5, rfl⟩
  go_wp2_with fail
  refine (d2.out _).mono ?_
  rintro e w' ⟨rfl, n6, rfl⟩
  go_wp2_with fail
  refine (d3.out _).mono ?_
  rintro e w' ⟨rfl, rfl⟩
  go_wp2_with fail
  refine (E1.out _).mono ?_
  rintro e w' ⟨rfl, rfl⟩
  go_wp2_with fail
  refine (E2.out _).mono ?_
  rintro e w' ⟨rfl, n7, rfl⟩
  go_wp2_with fail
  refine (E3.out _).mono ?_
  rintro e w' ⟨rfl, rfl⟩
  go_wp2_with fail
  refine (E4.out _).mono ?_
  rintro e w' ⟨rfl, n8, rfl⟩
  go_wp2_with fail
  refine (d4.out _).mono ?_
  rintro e w' ⟨rfl, rfl⟩
  go_wp2_with fail
  refine (d5.out _).mono ?_
  rintro e w' ⟨rfl, rfl⟩
  go_wp2_with fail
  refine (d6.out _).mono ?_
  rintro e w' ⟨rfl, rfl⟩
  go_wp2_with fail
  refine (d7.out _).mono ?_
  rintro e w' ⟨rfl, rfl⟩
  go_wp2_with fail
  refine (awake_any _).mono ?_
  rintro e w' ⟨rfl, n9, rfl⟩
  go_wp2
  go_ret
  exact ⟨rfl, by repeat (first | exact Below.refl _ _ | refine bs_drew ?_ | refine bs_drewN ?_ _)⟩

theorem keeps_law (a b c : Nat) (ha : a ≤ 4294967295) (hb : b ≤ 4294967295) (hc : c ≤ 4294967295) (w : World) :
    Calls Try.prog 7 #[.int .u32 (a : Int), .int .u32 (b : Int), .int .u32 (c : Int)] w (Ret w (.bool true)) := by
  have hk0 : keyW 0 = 0 := by decide
  rcases side_four a b ha hb with ⟨na, nb, hk, hs⟩ | ⟨hna, s, hs, hs4⟩ <;> rcases side_four c 0 hc (by decide) with ⟨nc, -, hp, ht⟩ | ⟨-, t, ht, ht4⟩
  · by_cases hl : IntKind.i32.wrap (b : Int) < IntKind.i32.wrap (a : Int)
    · exact keeps_spl a b c ha hb hc 4 4 hs ht rfl rfl ⟨nc, by omega⟩ (.inr (.inr (by omega))) _ _ rfl rfl hl w
    · exact keeps_sph a b c ha hb hc 4 4 hs ht rfl rfl ⟨nc, by omega⟩ (.inr (.inr (by omega))) _ _ rfl rfl hl w
  · by_cases hl : IntKind.i32.wrap (b : Int) < IntKind.i32.wrap (a : Int)
    · exact keeps_snl a b c ha hb hc 4 t hs ht rfl ht4 (.inr (.inr (by omega))) _ _ rfl rfl hl w
    · exact keeps_snh a b c ha hb hc 4 t hs ht rfl ht4 (.inr (.inr (by omega))) _ _ rfl rfl hl w
  · by_cases hl : IntKind.i32.wrap (b : Int) < IntKind.i32.wrap (a : Int)
    · exact keeps_npl a b c ha hb hc s 4 hs ht hs4 rfl ⟨nc, by omega⟩ hna _ _ rfl rfl hl w
    · exact keeps_nph a b c ha hb hc s 4 hs ht hs4 rfl ⟨nc, by omega⟩ hna _ _ rfl rfl hl w
  · by_cases hl : IntKind.i32.wrap (b : Int) < IntKind.i32.wrap (a : Int)
    · exact keeps_nnl a b c ha hb hc s t hs ht hs4 ht4 hna _ _ rfl rfl hl w
    · exact keeps_nnh a b c ha hb hc s t hs ht hs4 ht4 hna _ _ rfl rfl hl w
end Go.Proofs.Ytllchfdddfmjbaa
