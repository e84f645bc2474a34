/- Contracts of Of: the program's and the reference's. -/
import Derived.Test.YtfgbjaejkfkmmaaOfB
import Derived.Test.YtfgbjaejkfkmmaaWords
import Derived.Test.YtfgbjaejkfkmmaaRounded2
namespace Go.Proofs.Ytfgbjaejkfkmmaa
open Go.RowKit Ieee

set_option maxHeartbeats 1000000 in
theorem RefOf_any (n : Int) (h0 : -2147483648 ≤ n) (h1 : n ≤ 2147483647) (w : World) : Calls Try.prog 38 #[.int .i32 n] w (Ret w (.int .u32 (ofW n : Nat))) := by
  have hw : wordD (single.read (single.nearest (decide (n < 0)) n.natAbs 0)) = ofW n := wordD_read _ (single.write_lt (.number _ _ _))
  have hL := fun W => lay_any (single.read (single.nearest (decide (n < 0)) n.natAbs 0)) (can_read _) W
  rw [hw] at hL
  clear hw
  have hb : bsize n.natAbs ≤ 10000 := Nat.le_trans (bsize_of_lt (k := 32) (show n.natAbs < 4294967296 from by omega)) (by omega)
  have e64 : IntKind.i64.wrap n = n := IntWalk.i64_in _ (by omega)
  have hR := fun v W (hv : IsN W v n.natAbs) => rounded_any (decide (n < 0)) v n.natAbs 0 W hv hb (by omega) (by omega)
  generalize ofW n = x at *
  by_cases hn : n < 0
  · have hc : decide (n < 0) = true := decide_eq_true hn
    rw [hc] at hR hL
    have e1 : IntKind.i64.wrap (-n) = -n := IntWalk.i64_in _ (by omega)
    have e2 : IntKind.u64.wrap (-n) = (n.natAbs : Int) := by rw [IntWalk.u64_in _ (by omega)]; omega
    have hk : n.natAbs ≤ 18446744073709551615 := by omega
    generalize n.natAbs = k at *
    generalize single.read (single.nearest true k 0) = d at *
    have HL := Lib.hid hL
    have HR := Lib.hid hR
    have HK := Lib.hid hk
    clear hL hR hb hn hk h0 h1
    go_enter Try.func38, Try.ntmps38
    go_wp2_with fail
    refine (single_form _).mono ?_
    rintro e w1 ⟨rfl, hb1⟩
    go_wp2_with fail
    refine (nat_any k _ HK.out).mono ?_
    rintro e w2 ⟨v, rfl, hv, hb2⟩
    go_wp2_with fail
    refine (HR.out _ _ hv).mono ?_
    rintro e w3 ⟨rfl, hb3⟩
    go_wp2_with fail
    refine (HL.out _).mono ?_
    rintro e w4 ⟨rfl, hb4⟩
    go_wp2
    go_ret
    exact ⟨rfl, bs_step (bs_step (bs_step hb1 hb2) hb3) hb4⟩
  · have hc : decide (n < 0) = false := decide_eq_false hn
    rw [hc] at hR hL
    have e2 : IntKind.u64.wrap n = (n.natAbs : Int) := by rw [IntWalk.u64_in _ (by omega)]; omega
    have hk : n.natAbs ≤ 18446744073709551615 := by omega
    generalize n.natAbs = k at *
    generalize single.read (single.nearest false k 0) = d at *
    have HL := Lib.hid hL
    have HR := Lib.hid hR
    have HK := Lib.hid hk
    clear hL hR hb hn hk h0 h1
    go_enter Try.func38, Try.ntmps38
    go_wp2_with fail
    refine (single_form _).mono ?_
    rintro e w1 ⟨rfl, hb1⟩
    go_wp2_with fail
    refine (nat_any k _ HK.out).mono ?_
    rintro e w2 ⟨v, rfl, hv, hb2⟩
    go_wp2_with fail
    refine (HR.out _ _ hv).mono ?_
    rintro e w3 ⟨rfl, hb3⟩
    go_wp2_with fail
    refine (HL.out _).mono ?_
    rintro e w4 ⟨rfl, hb4⟩
    go_wp2
    go_ret
    exact ⟨rfl, bs_step (bs_step (bs_step hb1 hb2) hb3) hb4⟩
end Go.Proofs.Ytfgbjaejkfkmmaa
