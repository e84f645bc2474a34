/- The reference's agree, Swapped, Opposite (printed by a program of ours). -/
import Derived.Test.YtfgbjaejkfkmmaaAluA0
namespace Go.Proofs.Ytfgbjaejkfkmmaa
open Go.RowKit Ieee
set_option linter.unusedVariables false
/-- Do two comparisons part at a pair of samples? -/
def bad (sw : Bool) (op p i j : Nat) : Bool := if sw then hv op (smp i) (smp j) != hv p (smp j) (smp i) else hv op (smp i) (smp j) == hv p (smp i) (smp j)
def agB (sw : Bool) (op p : Nat) : Bool := (List.range 6).all fun i => (List.range 6).all fun j => !bad sw op p i j
theorem agB_true {sw : Bool} {op p : Nat} (h : ∀ i, i < 6 → ∀ j, j < 6 → bad sw op p i j = false) : agB sw op p = true := by
  unfold agB
  rw [List.all_eq_true]
  intro i hi
  rw [List.all_eq_true]
  intro j hj
  rw [h i (List.mem_range.1 hi) j (List.mem_range.1 hj)]; rfl
theorem agB_false {sw : Bool} {op p i j : Nat} (hi : i < 6) (hj : j < 6) (h : bad sw op p i j = true) : agB sw op p = false := by
  rw [Bool.eq_false_iff]
  intro hc
  unfold agB at hc
  have h1 := List.all_eq_true.1 hc i (List.mem_range.2 hi)
  have h2 := List.all_eq_true.1 h1 j (List.mem_range.2 hj)
  rw [h] at h2
  cases h2

set_option maxHeartbeats 2000000 in
theorem agree_false (op p : Nat) (h0 : 13 ≤ op) (h1 : op ≤ 28) (p0 : 13 ≤ p) (p1 : p ≤ 28) (t : Bool) (ht : agB false op p = t) (w : World) :
    Calls Try.prog 51 #[.int .u8 (op : Int), .int .u8 (p : Int), .bool false] w (Ret w (.bool t)) := by
  have HT := Lib.hid ht
  have HO := Lib.hid (fun a b ha hb t ht W => rhv op a b h0 h1 ha hb t ht W)
  have HP := Lib.hid (fun a b ha hb t ht W => rhv p a b p0 p1 ha hb t ht W)
  clear ht h0 h1 p0 p1
  go_enter Try.func51, Try.ntmps51
  go_wp2
  go_loopw [7] (fun s wr => ∃ i : Nat, i ≤ 6 ∧ s = .int .i64 (i : Int) ∧ Hid (∀ i', i' < i → ∀ j, j < 6 → bad false op p i' j = false) ∧ Below w.heap.size w wr) (fun s _ => 6 - (intOf s).toNat)
  case atStart => exact ⟨0, by omega, rfl, Lib.hid (fun i' h => by omega), Below.refl _ _⟩
  case round =>
    obtain ⟨i, hi, rfl, HI, hb0⟩ := hrel
    by_cases hi6 : i < 6
    · have hdec : decide ((i : Int) < 6) = true := decide_eq_true (by omega)
      have HB0 := Lib.hid hb0
      clear hb0
      go_wp2
      obtain ⟨wo, rfl⟩ : ∃ wo : World, wo = wr := ⟨_, rfl⟩
      go_loopw [8] (fun s wr => ∃ j : Nat, j ≤ 6 ∧ s = .int .i64 (j : Int) ∧ Hid (∀ j', j' < j → bad false op p i j' = false) ∧ Below wo.heap.size wo wr) (fun s _ => 6 - (intOf s).toNat)
      case atStart => exact ⟨0, by omega, rfl, Lib.hid (fun j' h => by omega), Below.refl _ _⟩
      case round =>
        obtain ⟨j, hj, rfl, HJ, hb1⟩ := hrel
        by_cases hj6 : j < 6
        · have hdec2 : decide ((j : Int) < 6) = true := decide_eq_true (by omega)
          have HB1 := Lib.hid hb1
          clear hb1
          obtain ⟨x, hx⟩ : ∃ x, hv op (smp i) (smp j) = x := ⟨_, rfl⟩
          obtain ⟨y, hy⟩ : ∃ x, hv p (smp i) (smp j) = x := ⟨_, rfl⟩
          obtain ⟨z, hz⟩ : ∃ x, hv p (smp j) (smp i) = x := ⟨_, rfl⟩
          have c1 := Lib.hid (fun W => sample_any i hi6 W)
          have c2 := Lib.hid (fun W => sample_any j hj6 W)
          have c3 := Lib.hid (fun W => HO.out (smp i) (smp j) (smp_le _) (smp_le _) x hx W)
          have c4 := Lib.hid (fun W => HP.out (smp i) (smp j) (smp_le _) (smp_le _) y hy W)
          have c5 := Lib.hid (fun W => HP.out (smp j) (smp i) (smp_le _) (smp_le _) z hz W)
          have HBD := Lib.hid (show bad false op p i j = (x == y) from by unfold bad; rw [if_neg Bool.false_ne_true, hx, hy])
          have HI6 := Lib.hid hi6
          have HJ6 := Lib.hid hj6
          clear hx hy hz hi6 hj6
          go_wp2_with fail
          refine (c1.out _).mono ?_
          rintro e w' ⟨rfl, rfl⟩
          go_wp2_with fail
          refine (c2.out _).mono ?_
          rintro e w' ⟨rfl, rfl⟩
          go_wp2_with fail
          refine (c3.out _).mono ?_
          rintro e w' ⟨rfl, k1⟩
          go_wp2_with fail
          refine (c1.out _).mono ?_
          rintro e w' ⟨rfl, rfl⟩
          go_wp2_with fail
          refine (c2.out _).mono ?_
          rintro e w' ⟨rfl, rfl⟩
          go_wp2_with fail
          refine (c4.out _).mono ?_
          rintro e w' ⟨rfl, k2⟩
          clear c1 c2 c3 c4 c5
          cases x <;> cases y
          all_goals
            go_wp2
            first
              | (go_ret
                 exact ⟨ret_same (by rw [← HT.out, agB_false HI6.out HJ6.out (by rw [HBD.out]; rfl)]; rfl), bs_step HB0.out (bs_step (bs_step HB1.out k1) k2)⟩)
              | (go_roundw
                 case rel => exact ⟨j + 1, by have := HJ6.out; omega, by go_num, Lib.hid (fun j' h => by
                   by_cases hjj : j' = j
                   · rw [hjj, HBD.out]; rfl
                   · exact HJ.out j' (by omega)), bs_step (bs_step HB1.out k1) k2⟩
                 case measure => simp [intOf]; have := HJ6.out; omega)
        · have hdec2 : decide ((j : Int) < 6) = false := decide_eq_false (by omega)
          have HB1 := Lib.hid hb1
          have HJ2 := Lib.hid (show j = 6 by omega)
          clear hb1 hj6
          go_wp2
          go_roundw
          case rel => exact ⟨i + 1, by omega, by go_num, Lib.hid (fun i' h j' hj' => by
            by_cases hii : i' = i
            · rw [hii]; exact HJ.out j' (by have := HJ2.out; omega)
            · exact HI.out i' (by omega) j' hj'), bs_step HB0.out HB1.out⟩
          case measure => simp [intOf]; omega
    · have hdec : decide ((i : Int) < 6) = false := decide_eq_false (by omega)
      have HI2 := Lib.hid (show i = 6 by omega)
      clear hi6
      go_wp2
      go_ret
      exact ⟨ret_same (by rw [← HT.out, agB_true (fun i' h' j hj => HI.out i' (by have := HI2.out; omega) j hj)]; rfl), hb0⟩

set_option maxHeartbeats 2000000 in
theorem agree_true (op p : Nat) (h0 : 13 ≤ op) (h1 : op ≤ 28) (p0 : 13 ≤ p) (p1 : p ≤ 28) (t : Bool) (ht : agB true op p = t) (w : World) :
    Calls Try.prog 51 #[.int .u8 (op : Int), .int .u8 (p : Int), .bool true] w (Ret w (.bool t)) := by
  have HT := Lib.hid ht
  have HO := Lib.hid (fun a b ha hb t ht W => rhv op a b h0 h1 ha hb t ht W)
  have HP := Lib.hid (fun a b ha hb t ht W => rhv p a b p0 p1 ha hb t ht W)
  clear ht h0 h1 p0 p1
  go_enter Try.func51, Try.ntmps51
  go_wp2
  go_loopw [7] (fun s wr => ∃ i : Nat, i ≤ 6 ∧ s = .int .i64 (i : Int) ∧ Hid (∀ i', i' < i → ∀ j, j < 6 → bad true op p i' j = false) ∧ Below w.heap.size w wr) (fun s _ => 6 - (intOf s).toNat)
  case atStart => exact ⟨0, by omega, rfl, Lib.hid (fun i' h => by omega), Below.refl _ _⟩
  case round =>
    obtain ⟨i, hi, rfl, HI, hb0⟩ := hrel
    by_cases hi6 : i < 6
    · have hdec : decide ((i : Int) < 6) = true := decide_eq_true (by omega)
      have HB0 := Lib.hid hb0
      clear hb0
      go_wp2
      obtain ⟨wo, rfl⟩ : ∃ wo : World, wo = wr := ⟨_, rfl⟩
      go_loopw [8] (fun s wr => ∃ j : Nat, j ≤ 6 ∧ s = .int .i64 (j : Int) ∧ Hid (∀ j', j' < j → bad true op p i j' = false) ∧ Below wo.heap.size wo wr) (fun s _ => 6 - (intOf s).toNat)
      case atStart => exact ⟨0, by omega, rfl, Lib.hid (fun j' h => by omega), Below.refl _ _⟩
      case round =>
        obtain ⟨j, hj, rfl, HJ, hb1⟩ := hrel
        by_cases hj6 : j < 6
        · have hdec2 : decide ((j : Int) < 6) = true := decide_eq_true (by omega)
          have HB1 := Lib.hid hb1
          clear hb1
          obtain ⟨x, hx⟩ : ∃ x, hv op (smp i) (smp j) = x := ⟨_, rfl⟩
          obtain ⟨y, hy⟩ : ∃ x, hv p (smp i) (smp j) = x := ⟨_, rfl⟩
          obtain ⟨z, hz⟩ : ∃ x, hv p (smp j) (smp i) = x := ⟨_, rfl⟩
          have c1 := Lib.hid (fun W => sample_any i hi6 W)
          have c2 := Lib.hid (fun W => sample_any j hj6 W)
          have c3 := Lib.hid (fun W => HO.out (smp i) (smp j) (smp_le _) (smp_le _) x hx W)
          have c4 := Lib.hid (fun W => HP.out (smp i) (smp j) (smp_le _) (smp_le _) y hy W)
          have c5 := Lib.hid (fun W => HP.out (smp j) (smp i) (smp_le _) (smp_le _) z hz W)
          have HBD := Lib.hid (show bad true op p i j = (x != z) from by unfold bad; rw [if_pos rfl, hx, hz])
          have HI6 := Lib.hid hi6
          have HJ6 := Lib.hid hj6
          clear hx hy hz hi6 hj6
          go_wp2_with fail
          refine (c1.out _).mono ?_
          rintro e w' ⟨rfl, rfl⟩
          go_wp2_with fail
          refine (c2.out _).mono ?_
          rintro e w' ⟨rfl, rfl⟩
          go_wp2_with fail
          refine (c3.out _).mono ?_
          rintro e w' ⟨rfl, k1⟩
          go_wp2_with fail
          refine (c1.out _).mono ?_
          rintro e w' ⟨rfl, rfl⟩
          go_wp2_with fail
          refine (c2.out _).mono ?_
          rintro e w' ⟨rfl, rfl⟩
          go_wp2_with fail
          refine (c4.out _).mono ?_
          rintro e w' ⟨rfl, k2⟩
          go_wp2_with fail
          refine (c2.out _).mono ?_
          rintro e w' ⟨rfl, rfl⟩
          go_wp2_with fail
          refine (c1.out _).mono ?_
          rintro e w' ⟨rfl, rfl⟩
          go_wp2_with fail
          refine (c5.out _).mono ?_
          rintro e w' ⟨rfl, k3⟩
          clear c1 c2 c3 c4 c5
          cases x <;> cases z
          all_goals
            go_wp2
            first
              | (go_ret
                 exact ⟨ret_same (by rw [← HT.out, agB_false HI6.out HJ6.out (by rw [HBD.out]; rfl)]; rfl), bs_step HB0.out (bs_step (bs_step (bs_step HB1.out k1) k2) k3)⟩)
              | (go_roundw
                 case rel => exact ⟨j + 1, by have := HJ6.out; omega, by go_num, Lib.hid (fun j' h => by
                   by_cases hjj : j' = j
                   · rw [hjj, HBD.out]; rfl
                   · exact HJ.out j' (by omega)), bs_step (bs_step (bs_step HB1.out k1) k2) k3⟩
                 case measure => simp [intOf]; have := HJ6.out; omega)
        · have hdec2 : decide ((j : Int) < 6) = false := decide_eq_false (by omega)
          have HB1 := Lib.hid hb1
          have HJ2 := Lib.hid (show j = 6 by omega)
          clear hb1 hj6
          go_wp2
          go_roundw
          case rel => exact ⟨i + 1, by omega, by go_num, Lib.hid (fun i' h j' hj' => by
            by_cases hii : i' = i
            · rw [hii]; exact HJ.out j' (by have := HJ2.out; omega)
            · exact HI.out i' (by omega) j' hj'), bs_step HB0.out HB1.out⟩
          case measure => simp [intOf]; omega
    · have hdec : decide ((i : Int) < 6) = false := decide_eq_false (by omega)
      have HI2 := Lib.hid (show i = 6 by omega)
      clear hi6
      go_wp2
      go_ret
      exact ⟨ret_same (by rw [← HT.out, agB_true (fun i' h' j hj => HI.out i' (by have := HI2.out; omega) j hj)]; rfl), hb0⟩

theorem agree_any (op p : Nat) (h0 : 13 ≤ op) (h1 : op ≤ 28) (p0 : 13 ≤ p) (p1 : p ≤ 28) (sw t : Bool) (ht : agB sw op p = t) (w : World) :
    Calls Try.prog 51 #[.int .u8 (op : Int), .int .u8 (p : Int), .bool sw] w (Ret w (.bool t)) := by
  cases sw
  · exact agree_false op p h0 h1 p0 p1 t ht w
  · exact agree_true op p h0 h1 p0 p1 t ht w

theorem isComp_yes (op : Nat) (h0 : 13 ≤ op) (h1 : op ≤ 28) (w : World) : Calls Try.prog 50 #[.int .u8 (op : Int)] w (Ret w (.bool true)) := by
  have c1 := Lib.hid (fun W => rhv op 0 0 h0 h1 (by decide) (by decide) _ rfl W)
  clear h0 h1
  go_enter Try.func50, Try.ntmps50
  go_wp2_with fail
  refine (c1.out _).mono ?_
  rintro e w' ⟨rfl, hb⟩
  go_wp2
  go_ret
  exact ⟨rfl, hb⟩
theorem isComp_no (op : Int) (h13 : ((op : Int) == 13) = false) (h14 : ((op : Int) == 14) = false) (h15 : ((op : Int) == 15) = false) (h16 : ((op : Int) == 16) = false) (h17 : ((op : Int) == 17) = false) (h18 : ((op : Int) == 18) = false) (h19 : ((op : Int) == 19) = false) (h20 : ((op : Int) == 20) = false) (h21 : ((op : Int) == 21) = false) (h22 : ((op : Int) == 22) = false) (h23 : ((op : Int) == 23) = false) (h24 : ((op : Int) == 24) = false) (h25 : ((op : Int) == 25) = false) (h26 : ((op : Int) == 26) = false) (h27 : ((op : Int) == 27) = false) (h28 : ((op : Int) == 28) = false) (w : World) : Calls Try.prog 50 #[.int .u8 op] w (Ret w (.bool false)) := by
  have c1 := Lib.hid (fun W => rhol_other op 0 0 (by decide) (by decide) h13 h14 h15 h16 h17 h18 h19 h20 h21 h22 h23 h24 h25 h26 h27 h28 W)
  clear h13 h14 h15 h16 h17 h18 h19 h20 h21 h22 h23 h24 h25 h26 h27 h28
  go_enter Try.func50, Try.ntmps50
  go_wp2_with fail
  refine (c1.out _).mono ?_
  rintro e w' ⟨rfl, hb⟩
  go_wp2
  go_ret
  exact ⟨rfl, hb⟩

set_option maxHeartbeats 1000000 in
theorem rswap_at (op r x : Nat) (h0 : 13 ≤ op) (h1 : op ≤ 28) (hr : (13 ≤ r ∧ r ≤ 28 ∧ x = 0 ∧ agB true op r = true ∧ ∀ p, p < r → 13 ≤ p → agB true op p = false) ∨ (r = 0 ∧ x = 62 ∧ ∀ p, p ≤ 28 → 13 ≤ p → agB true op p = false)) (w : World) :
    Calls Try.prog 25 #[.int .u8 (op : Int)] w (Ret w (.tuple #[.int .u8 (r : Nat), .int .i64 (x : Nat)])) := by
  have c1 := Lib.hid (fun W => isComp_yes op h0 h1 W)
  have c2 := Lib.hid (fun p t p0 p1 ht W => agree_any op p h0 h1 p0 p1 true t ht W)
  have HR := Lib.hid hr
  clear hr h0 h1
  go_enter Try.func25, Try.ntmps25
  go_wp2_with fail
  refine (c1.out _).mono ?_
  rintro e w' ⟨rfl, hb0⟩
  go_wp2
  go_loopw [4] (fun s wr => ∃ p : Nat, 13 ≤ p ∧ p ≤ 29 ∧ s = .int .u8 (p : Int) ∧ Hid (∀ p', p' < p → 13 ≤ p' → agB true op p' = false) ∧ Below w.heap.size w wr) (fun s _ => 29 - (intOf s).toNat)
  case atStart => exact ⟨13, by omega, by omega, rfl, Lib.hid (fun p' h h' => by omega), hb0⟩
  case round =>
    obtain ⟨p, hp, hp2, rfl, HI, hb1⟩ := hrel
    have HB1 := Lib.hid hb1
    clear hb1
    by_cases hle : p ≤ 28
    · have hdec : decide ((p : Int) ≤ 28) = true := decide_eq_true (by omega)
      obtain ⟨t, ht⟩ : ∃ t, agB true op p = t := ⟨_, rfl⟩
      have c3 := Lib.hid (fun W => c2.out p t hp hle ht W)
      have HTT := Lib.hid ht
      clear ht
      cases t
      · have _u := trivial
        go_wp2_with fail
        refine (c3.out _).mono ?_
        rintro e w' ⟨rfl, k1⟩
        go_wp2
        go_roundw
        case rel => exact ⟨p + 1, by omega, by omega, by go_num, Lib.hid (fun p' h h' => by
          by_cases hpp : p' = p
          · rw [hpp]; exact HTT.out
          · exact HI.out p' (by omega) h'), bs_step HB1.out k1⟩
        case measure => simp [intOf]; omega
      · have HF := Lib.hid (show r = p ∧ x = 0 from by
          rcases HR.out with ⟨a1, a2, a3, a4, a5⟩ | ⟨a1, a2, a3⟩
          · refine ⟨?_, a3⟩
            rcases Nat.lt_trichotomy r p with h | h | h
            · have := HI.out r h a1; rw [a4] at this; cases this
            · exact h
            · have := a5 p h hp; rw [HTT.out] at this; cases this
          · have := a3 p hle hp; rw [HTT.out] at this; cases this)
        go_wp2_with fail
        refine (c3.out _).mono ?_
        rintro e w' ⟨rfl, k1⟩
        go_wp2
        go_ret2
        exact ⟨ret_same (by rw [HF.out.1, HF.out.2]; rfl), bs_step HB1.out k1⟩
    · have hdec : decide ((p : Int) ≤ 28) = false := decide_eq_false (by omega)
      have HF := Lib.hid (show r = 0 ∧ x = 62 from by
        rcases HR.out with ⟨a1, a2, a3, a4, a5⟩ | ⟨a1, a2, a3⟩
        · have := HI.out r (by omega) a1; rw [a4] at this; cases this
        · exact ⟨a1, a2⟩)
      go_wp2
      go_ret2
      exact ⟨ret_same (by rw [HF.out.1, HF.out.2]; rfl), HB1.out⟩
theorem rswap_other (op : Int) (h13 : ((op : Int) == 13) = false) (h14 : ((op : Int) == 14) = false) (h15 : ((op : Int) == 15) = false) (h16 : ((op : Int) == 16) = false) (h17 : ((op : Int) == 17) = false) (h18 : ((op : Int) == 18) = false) (h19 : ((op : Int) == 19) = false) (h20 : ((op : Int) == 20) = false) (h21 : ((op : Int) == 21) = false) (h22 : ((op : Int) == 22) = false) (h23 : ((op : Int) == 23) = false) (h24 : ((op : Int) == 24) = false) (h25 : ((op : Int) == 25) = false) (h26 : ((op : Int) == 26) = false) (h27 : ((op : Int) == 27) = false) (h28 : ((op : Int) == 28) = false) (w : World) : Calls Try.prog 25 #[.int .u8 op] w (Ret w (.tuple #[.int .u8 0, .int .i64 61])) := by
  have c1 := Lib.hid (fun W => isComp_no op h13 h14 h15 h16 h17 h18 h19 h20 h21 h22 h23 h24 h25 h26 h27 h28 W)
  clear h13 h14 h15 h16 h17 h18 h19 h20 h21 h22 h23 h24 h25 h26 h27 h28
  go_enter Try.func25, Try.ntmps25
  go_wp2_with fail
  refine (c1.out _).mono ?_
  rintro e w' ⟨rfl, hb0⟩
  go_wp2
  go_ret2
  exact ⟨rfl, hb0⟩

set_option maxHeartbeats 1000000 in
theorem roppo_at (op r x : Nat) (h0 : 13 ≤ op) (h1 : op ≤ 28) (hr : (13 ≤ r ∧ r ≤ 28 ∧ x = 0 ∧ agB false op r = true ∧ ∀ p, p < r → 13 ≤ p → agB false op p = false) ∨ (r = 0 ∧ x = 62 ∧ ∀ p, p ≤ 28 → 13 ≤ p → agB false op p = false)) (w : World) :
    Calls Try.prog 26 #[.int .u8 (op : Int)] w (Ret w (.tuple #[.int .u8 (r : Nat), .int .i64 (x : Nat)])) := by
  have c1 := Lib.hid (fun W => isComp_yes op h0 h1 W)
  have c2 := Lib.hid (fun p t p0 p1 ht W => agree_any op p h0 h1 p0 p1 false t ht W)
  have HR := Lib.hid hr
  clear hr h0 h1
  go_enter Try.func26, Try.ntmps26
  go_wp2_with fail
  refine (c1.out _).mono ?_
  rintro e w' ⟨rfl, hb0⟩
  go_wp2
  go_loopw [4] (fun s wr => ∃ p : Nat, 13 ≤ p ∧ p ≤ 29 ∧ s = .int .u8 (p : Int) ∧ Hid (∀ p', p' < p → 13 ≤ p' → agB false op p' = false) ∧ Below w.heap.size w wr) (fun s _ => 29 - (intOf s).toNat)
  case atStart => exact ⟨13, by omega, by omega, rfl, Lib.hid (fun p' h h' => by omega), hb0⟩
  case round =>
    obtain ⟨p, hp, hp2, rfl, HI, hb1⟩ := hrel
    have HB1 := Lib.hid hb1
    clear hb1
    by_cases hle : p ≤ 28
    · have hdec : decide ((p : Int) ≤ 28) = true := decide_eq_true (by omega)
      obtain ⟨t, ht⟩ : ∃ t, agB false op p = t := ⟨_, rfl⟩
      have c3 := Lib.hid (fun W => c2.out p t hp hle ht W)
      have HTT := Lib.hid ht
      clear ht
      cases t
      · have _u := trivial
        go_wp2_with fail
        refine (c3.out _).mono ?_
        rintro e w' ⟨rfl, k1⟩
        go_wp2
        go_roundw
        case rel => exact ⟨p + 1, by omega, by omega, by go_num, Lib.hid (fun p' h h' => by
          by_cases hpp : p' = p
          · rw [hpp]; exact HTT.out
          · exact HI.out p' (by omega) h'), bs_step HB1.out k1⟩
        case measure => simp [intOf]; omega
      · have HF := Lib.hid (show r = p ∧ x = 0 from by
          rcases HR.out with ⟨a1, a2, a3, a4, a5⟩ | ⟨a1, a2, a3⟩
          · refine ⟨?_, a3⟩
            rcases Nat.lt_trichotomy r p with h | h | h
            · have := HI.out r h a1; rw [a4] at this; cases this
            · exact h
            · have := a5 p h hp; rw [HTT.out] at this; cases this
          · have := a3 p hle hp; rw [HTT.out] at this; cases this)
        go_wp2_with fail
        refine (c3.out _).mono ?_
        rintro e w' ⟨rfl, k1⟩
        go_wp2
        go_ret2
        exact ⟨ret_same (by rw [HF.out.1, HF.out.2]; rfl), bs_step HB1.out k1⟩
    · have hdec : decide ((p : Int) ≤ 28) = false := decide_eq_false (by omega)
      have HF := Lib.hid (show r = 0 ∧ x = 62 from by
        rcases HR.out with ⟨a1, a2, a3, a4, a5⟩ | ⟨a1, a2, a3⟩
        · have := HI.out r (by omega) a1; rw [a4] at this; cases this
        · exact ⟨a1, a2⟩)
      go_wp2
      go_ret2
      exact ⟨ret_same (by rw [HF.out.1, HF.out.2]; rfl), HB1.out⟩
theorem roppo_other (op : Int) (h13 : ((op : Int) == 13) = false) (h14 : ((op : Int) == 14) = false) (h15 : ((op : Int) == 15) = false) (h16 : ((op : Int) == 16) = false) (h17 : ((op : Int) == 17) = false) (h18 : ((op : Int) == 18) = false) (h19 : ((op : Int) == 19) = false) (h20 : ((op : Int) == 20) = false) (h21 : ((op : Int) == 21) = false) (h22 : ((op : Int) == 22) = false) (h23 : ((op : Int) == 23) = false) (h24 : ((op : Int) == 24) = false) (h25 : ((op : Int) == 25) = false) (h26 : ((op : Int) == 26) = false) (h27 : ((op : Int) == 27) = false) (h28 : ((op : Int) == 28) = false) (w : World) : Calls Try.prog 26 #[.int .u8 op] w (Ret w (.tuple #[.int .u8 0, .int .i64 61])) := by
  have c1 := Lib.hid (fun W => isComp_no op h13 h14 h15 h16 h17 h18 h19 h20 h21 h22 h23 h24 h25 h26 h27 h28 W)
  clear h13 h14 h15 h16 h17 h18 h19 h20 h21 h22 h23 h24 h25 h26 h27 h28
  go_enter Try.func26, Try.ntmps26
  go_wp2_with fail
  refine (c1.out _).mono ?_
  rintro e w' ⟨rfl, hb0⟩
  go_wp2
  go_ret2
  exact ⟨rfl, hb0⟩
end Go.Proofs.Ytfgbjaejkfkmmaa
