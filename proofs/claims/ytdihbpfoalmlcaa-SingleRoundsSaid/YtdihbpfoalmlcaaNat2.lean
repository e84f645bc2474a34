/- Contracts of the reference's numbers, second part: plus, less, up. -/
import Derived.Test.YtdihbpfoalmlcaaPush
import Derived.Test.YtdihbpfoalmlcaaNat1
namespace Go.Proofs.Ytdihbpfoalmlcaa
open Go.RowKit

theorem IsN.len {w : World} {v : Value} {n : Nat} (h : IsN w v n) : ∃ A cap xs, v = .slice A xs.length cap ∧ xs.length ≤ cap ∧ cap ≤ 9223372036854775807 ∧ Dg w w.heap.size A xs ∧ Small xs ∧ Norm xs ∧ dval xs = n ∧ 32 * xs.length < bsize n + 32 := by
  obtain ⟨A, cap, xs, h0, h1, h2, h3, h4, h5, h6⟩ := h
  exact ⟨A, cap, xs, h0, h1, h2, h3, h4, h5, h6, by rw [← h6]; exact len_lt h5⟩

/-- The digit at k, where there is one: in whatever later world. -/
theorem Dg.at_ {w wr : World} {A : Option Addr} {xs : List Nat} {k : Nat} (h : Dg w w.heap.size A xs) (hb : Below w.heap.size w wr) (hk : k < xs.length) :
    ∃ b, A = some ⟨b, 0, none⟩ ∧ b < w.heap.size ∧ wr.cell? ⟨b, k, none⟩ = some (.int .u32 (dg xs k : Nat)) := by
  obtain ⟨b, rfl, hlt, hc⟩ := h (by omega)
  exact ⟨b, rfl, hlt, (hb.cell (p := ⟨b, k, none⟩) hlt).trans (hc k hk)⟩

theorem plus_more {xa xb out ys : List Nat} {k c : Nat} (hs : Small out) (hl : out.length = k) (hc : c ≤ 1) (h : dval out + Bw ^ k * c = dval (xa.take k) + dval (xb.take k)) (ha : dg xa k ≤ 4294967295) (hb : dg xb k ≤ 4294967295)
    (hy : ys = out ++ [(c + dg xa k + dg xb k) % Bw]) :
    (c + dg xa k + dg xb k) / Bw ≤ 1 ∧ ys.length = k + 1 ∧ Small ys ∧ dval ys + Bw ^ (k + 1) * ((c + dg xa k + dg xb k) / Bw) = dval (xa.take (k + 1)) + dval (xb.take (k + 1)) := by
  subst hy
  refine ⟨?_, by simp [hl], small_snoc hs (Nat.mod_lt _ Bw_pos), plus_round hl h⟩
  unfold Bw
  omega
theorem quo_eq (x : Int) (n : Nat) (h : x = n) : x / 4294967296 = ((n / Bw : Nat) : Int) := by subst h; unfold Bw; omega
theorem rem_eq (x : Int) (n : Nat) (h : x = n) : x % 4294967296 = ((n % Bw : Nat) : Int) := by subst h; unfold Bw; omega
theorem u64_eq {x y : Int} (h : x = y) : Value.int .u64 x = .int .u64 y := by rw [h]

set_option maxHeartbeats 1000000 in
theorem plus_any (va vb : Value) (a b : Nat) (w : World) (ha : IsN w va a) (hb : IsN w vb b) (ba : bsize a ≤ 1000000) (bb : bsize b ≤ 1000000) :
    Calls Try.prog 74 #[va, vb] w (RetN w (a + b)) := by
  obtain ⟨A, ca, xa, rfl, hla, hca, hda, hsa, -, hva, hna⟩ := ha.len
  obtain ⟨B, cb, xb, rfl, hlb, hcb, hdb, hsb, -, hvb, hnb⟩ := hb.len
  clear ha hb
  have HVA := Lib.hid hva
  have HVB := Lib.hid hvb
  clear hva hvb
  go_enter Try.func74, Try.ntmps74
  go_wp2
  go_loopw [5, 6, 7] (fun o c i wr => ∃ (k c' : Nat) (out : List Nat), k ≤ 100000 ∧ c' ≤ 1 ∧ c = .int .u64 c' ∧ i = .int .i64 k ∧ out.length = k ∧ Small out ∧ dval out + Bw ^ k * c' = dval (xa.take k) + dval (xb.take k) ∧ Own wr w.heap.size o out ∧ Below w.heap.size w wr)
    (fun _ _ i _ => 100000 - (intOf i).toNat)
  case atStart => exact ⟨0, 0, [], by omega, by omega, rfl, rfl, rfl, small_nil, by simp [dval], Own.none_ _ _, Below.refl _ _⟩
  case round =>
    obtain ⟨k, c, out, hk, hc, rfl, rfl, hlen, hso, hval, hown, hbel⟩ := hrel
    have HVAL := Lib.hid hval
    have HLEN := Lib.hid hlen
    have HLE := Lib.hid (show out.length ≤ 1000000 by omega)
    have HOWN := Lib.hid hown
    have HBEL := Lib.hid hbel
    have hbase := hbel.size
    have hd1 := small_dg hsa k
    have hd2 := small_dg hsb k
    have HM := fun ys => plus_more (ys := ys) hso hlen hc hval hd1 hd2
    have HMORE := Lib.hid HM
    clear hval hlen hown HM
    by_cases h1 : k < xa.length
    · obtain ⟨b1, rfl, hb1, hcell1⟩ := hda.at_ hbel h1
      by_cases h2 : k < xb.length
      · obtain ⟨b2, rfl, hb2, hcell2⟩ := hdb.at_ hbel h2
        clear hbel
        go_wp2_with (at_builtin; refine push rfl (.tmp 44) (.tmp 47) rfl w.heap.size _ out rfl HOWN.out _ ((c + dg xa k + dg xb k) % Bw) rfl (rem_eq _ _ (by omega)) HLE.out hbase ?_; intro v' w1 ys HY hown1 hb1')
        go_roundw
        case rel =>
          obtain ⟨m1, m2, m3, m4⟩ := HMORE.out ys HY.out
          exact ⟨k + 1, _, ys, by omega, m1, u64_eq (quo_eq _ _ (by omega)), by go_num, m2, m3, m4, hown1, HBEL.out.trans hb1'⟩
        case measure => simp [intOf]; omega
      · have hz2 := dg_out (xs := xb) (k := k) (by omega)
        have HZ := Lib.hid hz2
        clear hbel hz2
        go_wp2_with (at_builtin; refine push rfl (.tmp 44) (.tmp 47) rfl w.heap.size _ out rfl HOWN.out _ ((c + dg xa k + dg xb k) % Bw) rfl (rem_eq _ _ (by have := HZ.out; omega)) HLE.out hbase ?_; intro v' w1 ys HY hown1 hb1')
        go_roundw
        case rel =>
          obtain ⟨m1, m2, m3, m4⟩ := HMORE.out ys HY.out
          exact ⟨k + 1, _, ys, by omega, m1, u64_eq (quo_eq _ _ (by have := HZ.out; omega)), by go_num, m2, m3, m4, hown1, HBEL.out.trans hb1'⟩
        case measure => simp [intOf]; omega
    · have hz1 := dg_out (xs := xa) (k := k) (by omega)
      have HZ1 := Lib.hid hz1
      clear hz1
      by_cases h2 : k < xb.length
      · obtain ⟨b2, rfl, hb2, hcell2⟩ := hdb.at_ hbel h2
        clear hbel
        go_wp2_with (at_builtin; refine push rfl (.tmp 44) (.tmp 47) rfl w.heap.size _ out rfl HOWN.out _ ((c + dg xa k + dg xb k) % Bw) rfl (rem_eq _ _ (by have := HZ1.out; omega)) HLE.out hbase ?_; intro v' w1 ys HY hown1 hb1')
        go_roundw
        case rel =>
          obtain ⟨m1, m2, m3, m4⟩ := HMORE.out ys HY.out
          exact ⟨k + 1, _, ys, by omega, m1, u64_eq (quo_eq _ _ (by have := HZ1.out; omega)), by go_num, m2, m3, m4, hown1, HBEL.out.trans hb1'⟩
        case measure => simp [intOf]; omega
      · clear hbel
        go_wp2_with (first
          | (at_builtin; refine push rfl (.tmp 51) (.tmp 54) rfl w.heap.size _ out rfl HOWN.out _ c rfl (by omega) HLE.out hbase ?_; intro v' w1 ys HY hown1 hb1'; obtain ⟨A1, c1, rfl, hl1, hc1, hd1'⟩ := hown1.isN)
          | (go_at_call 81; refine (cut_any _ _ _ _ hl1 hc1 hd1' (by rw [HY.out]; exact small_snoc hso (by unfold Bw; omega))).mono ?_; rintro e w' ⟨v, rfl, hv, rfl⟩))
        go_ret
        refine ⟨_, rfl, ?_, HBEL.out.trans hb1'⟩
        have e1 : dval ys = a + b := by
          rw [HY.out, dval_snoc, HLEN.out, HVAL.out, dval_take_all _ _ (by omega), dval_take_all _ _ (by omega), HVA.out, HVB.out]
        rw [← e1]
        exact hv
end Go.Proofs.Ytdihbpfoalmlcaa
