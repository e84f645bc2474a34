/- Contract of math/bits.Len64. -/
import Derived.Test.YtdihbpfoalmlcaaSingle
import Derived.Test.YtdihbpfoalmlcaaDig
import Derived.Lib.Strings
import Derived.Lib.Slices
import Derived.Lib.Small
import Derived.Lib.Walk
import Derived.Lib.BitFns
namespace Go.Proofs.Ytdihbpfoalmlcaa
open Go.RowKit

theorem tab_val : ∀ v : Fin 256, (Lib.len8tab[v.val]'(by rw [Lib.len8tab_size]; exact v.isLt)).toNat = bsize v.val := by decide +kernel
theorem bsize_up (x : Nat) : ∀ k, 0 < x / 2 ^ k → bsize x = bsize (x / 2 ^ k) + k := by
  intro k
  induction k with
  | zero => intro _; rw [Nat.pow_zero, Nat.div_one, Nat.add_zero]
  | succ k ih =>
    intro h
    rw [Nat.pow_succ, ← Nat.div_div_eq_div_mul] at h ⊢
    have h0 : 0 < x / 2 ^ k := by omega
    rw [ih h0, bsize_half h0]
    omega
theorem bsize_small (v : Nat) (h : v < 256) : bsize v ≤ 8 := by
  have h1 : ∀ u : Fin 256, bsize u.val ≤ 8 := by decide +kernel
  exact h1 ⟨v, h⟩
theorem tab_nat (v : Nat) (h : v < Lib.len8tab.size) (hv : v < 256) : ((Lib.len8tab[v]'h).toNat : Int) = (bsize v : Nat) := congrArg (fun n : Nat => (n : Int)) (tab_val ⟨v, hv⟩)
theorem len8_all : ∀ v : Fin 256, Lib.len8 (v.val : Int) = (bsize v.val : Nat) := by decide +kernel
theorem len8_is (i : Int) (v : Nat) (h : i = (v : Int)) (hv : v < 256) : Lib.len8 i = (bsize v : Nat) := by rw [h]; exact len8_all ⟨v, hv⟩
theorem wrap_sum (k b : Nat) (hk : k ≤ 64) (hb : b ≤ 64) : wrap64 ((k : Int) + wrap64 (b : Int)) = ((b + k : Nat) : Int) := by unfold wrap64; omega
theorem wrap_one (b : Nat) (hb : b ≤ 64) : wrap64 (wrap64 (b : Int)) = (b : Int) := by unfold wrap64; omega

set_option maxRecDepth 100000 in
set_option maxHeartbeats 1000000 in
theorem len_56 (n : Nat) (h0 : 72057594037927936 ≤ n) (h1 : n < 18446744073709551616) (w : World) : Calls Try.prog 61 #[.int .u64 (n : Int)] w fun e w' => e = .returned (.int .i64 (bsize n : Nat)) ∧ w = w' := by
  have c1 : decide ((4294967296 : Int) ≤ (n : Int)) = true := decide_eq_true (by omega)
  have c2 : decide ((65536 : Int) ≤ (n : Int) / 4294967296) = true := decide_eq_true (by omega)
  have c3 : decide ((256 : Int) ≤ (n : Int) / 4294967296 / 65536) = true := decide_eq_true (by omega)
  have hB := len8_is ((n : Int) / 4294967296 / 65536 / 256 % 256) (n / 72057594037927936) (by omega) (by omega)
  have hs := bsize_small (n / 72057594037927936) (by omega)
  have hu := bsize_up n 56 (by show 0 < n / 72057594037927936; omega)
  rw [show 2 ^ 56 = 72057594037927936 from rfl] at hu
  obtain ⟨b, hb⟩ : ∃ b, bsize (n / 72057594037927936) = b := ⟨_, rfl⟩
  rw [hb] at hB hs hu
  have HF := Lib.hid (show wrap64 (56 + wrap64 (Lib.len8 ((n : Int) / 4294967296 / 65536 / 256 % 256))) = (bsize n : Nat) from by rw [hB, hu]; exact wrap_sum 56 b (by omega) (by omega))
  clear hu h0 h1 hs hb hB
  go_enter Try.func61, Try.ntmps61
  go_wp2
  go_ret
  exact ⟨congrArg Ending.returned (congrArg (Value.int IntKind.i64) HF.out), rfl⟩

set_option maxRecDepth 100000 in
set_option maxHeartbeats 1000000 in
theorem len_48 (n : Nat) (h0 : 281474976710656 ≤ n) (h1 : n < 72057594037927936) (w : World) : Calls Try.prog 61 #[.int .u64 (n : Int)] w fun e w' => e = .returned (.int .i64 (bsize n : Nat)) ∧ w = w' := by
  have c1 : decide ((4294967296 : Int) ≤ (n : Int)) = true := decide_eq_true (by omega)
  have c2 : decide ((65536 : Int) ≤ (n : Int) / 4294967296) = true := decide_eq_true (by omega)
  have c3 : decide ((256 : Int) ≤ (n : Int) / 4294967296 / 65536) = false := decide_eq_false (by omega)
  have hB := len8_is ((n : Int) / 4294967296 / 65536 % 256) (n / 281474976710656) (by omega) (by omega)
  have hs := bsize_small (n / 281474976710656) (by omega)
  have hu := bsize_up n 48 (by show 0 < n / 281474976710656; omega)
  rw [show 2 ^ 48 = 281474976710656 from rfl] at hu
  obtain ⟨b, hb⟩ : ∃ b, bsize (n / 281474976710656) = b := ⟨_, rfl⟩
  rw [hb] at hB hs hu
  have HF := Lib.hid (show wrap64 (48 + wrap64 (Lib.len8 ((n : Int) / 4294967296 / 65536 % 256))) = (bsize n : Nat) from by rw [hB, hu]; exact wrap_sum 48 b (by omega) (by omega))
  clear hu h0 h1 hs hb hB
  go_enter Try.func61, Try.ntmps61
  go_wp2
  go_ret
  exact ⟨congrArg Ending.returned (congrArg (Value.int IntKind.i64) HF.out), rfl⟩

set_option maxRecDepth 100000 in
set_option maxHeartbeats 1000000 in
theorem len_40 (n : Nat) (h0 : 1099511627776 ≤ n) (h1 : n < 281474976710656) (w : World) : Calls Try.prog 61 #[.int .u64 (n : Int)] w fun e w' => e = .returned (.int .i64 (bsize n : Nat)) ∧ w = w' := by
  have c1 : decide ((4294967296 : Int) ≤ (n : Int)) = true := decide_eq_true (by omega)
  have c2 : decide ((65536 : Int) ≤ (n : Int) / 4294967296) = false := decide_eq_false (by omega)
  have c3 : decide ((256 : Int) ≤ (n : Int) / 4294967296) = true := decide_eq_true (by omega)
  have hB := len8_is ((n : Int) / 4294967296 / 256 % 256) (n / 1099511627776) (by omega) (by omega)
  have hs := bsize_small (n / 1099511627776) (by omega)
  have hu := bsize_up n 40 (by show 0 < n / 1099511627776; omega)
  rw [show 2 ^ 40 = 1099511627776 from rfl] at hu
  obtain ⟨b, hb⟩ : ∃ b, bsize (n / 1099511627776) = b := ⟨_, rfl⟩
  rw [hb] at hB hs hu
  have HF := Lib.hid (show wrap64 (40 + wrap64 (Lib.len8 ((n : Int) / 4294967296 / 256 % 256))) = (bsize n : Nat) from by rw [hB, hu]; exact wrap_sum 40 b (by omega) (by omega))
  clear hu h0 h1 hs hb hB
  go_enter Try.func61, Try.ntmps61
  go_wp2
  go_ret
  exact ⟨congrArg Ending.returned (congrArg (Value.int IntKind.i64) HF.out), rfl⟩

set_option maxRecDepth 100000 in
set_option maxHeartbeats 1000000 in
theorem len_32 (n : Nat) (h0 : 4294967296 ≤ n) (h1 : n < 1099511627776) (w : World) : Calls Try.prog 61 #[.int .u64 (n : Int)] w fun e w' => e = .returned (.int .i64 (bsize n : Nat)) ∧ w = w' := by
  have c1 : decide ((4294967296 : Int) ≤ (n : Int)) = true := decide_eq_true (by omega)
  have c2 : decide ((65536 : Int) ≤ (n : Int) / 4294967296) = false := decide_eq_false (by omega)
  have c3 : decide ((256 : Int) ≤ (n : Int) / 4294967296) = false := decide_eq_false (by omega)
  have hB := len8_is ((n : Int) / 4294967296 % 256) (n / 4294967296) (by omega) (by omega)
  have hs := bsize_small (n / 4294967296) (by omega)
  have hu := bsize_up n 32 (by show 0 < n / 4294967296; omega)
  rw [show 2 ^ 32 = 4294967296 from rfl] at hu
  obtain ⟨b, hb⟩ : ∃ b, bsize (n / 4294967296) = b := ⟨_, rfl⟩
  rw [hb] at hB hs hu
  have HF := Lib.hid (show wrap64 (32 + wrap64 (Lib.len8 ((n : Int) / 4294967296 % 256))) = (bsize n : Nat) from by rw [hB, hu]; exact wrap_sum 32 b (by omega) (by omega))
  clear hu h0 h1 hs hb hB
  go_enter Try.func61, Try.ntmps61
  go_wp2
  go_ret
  exact ⟨congrArg Ending.returned (congrArg (Value.int IntKind.i64) HF.out), rfl⟩

set_option maxRecDepth 100000 in
set_option maxHeartbeats 1000000 in
theorem len_24 (n : Nat) (h0 : 16777216 ≤ n) (h1 : n < 4294967296) (w : World) : Calls Try.prog 61 #[.int .u64 (n : Int)] w fun e w' => e = .returned (.int .i64 (bsize n : Nat)) ∧ w = w' := by
  have c1 : decide ((4294967296 : Int) ≤ (n : Int)) = false := decide_eq_false (by omega)
  have c2 : decide ((65536 : Int) ≤ (n : Int)) = true := decide_eq_true (by omega)
  have c3 : decide ((256 : Int) ≤ (n : Int) / 65536) = true := decide_eq_true (by omega)
  have hB := len8_is ((n : Int) / 65536 / 256 % 256) (n / 16777216) (by omega) (by omega)
  have hs := bsize_small (n / 16777216) (by omega)
  have hu := bsize_up n 24 (by show 0 < n / 16777216; omega)
  rw [show 2 ^ 24 = 16777216 from rfl] at hu
  obtain ⟨b, hb⟩ : ∃ b, bsize (n / 16777216) = b := ⟨_, rfl⟩
  rw [hb] at hB hs hu
  have HF := Lib.hid (show wrap64 (24 + wrap64 (Lib.len8 ((n : Int) / 65536 / 256 % 256))) = (bsize n : Nat) from by rw [hB, hu]; exact wrap_sum 24 b (by omega) (by omega))
  clear hu h0 h1 hs hb hB
  go_enter Try.func61, Try.ntmps61
  go_wp2
  go_ret
  exact ⟨congrArg Ending.returned (congrArg (Value.int IntKind.i64) HF.out), rfl⟩

set_option maxRecDepth 100000 in
set_option maxHeartbeats 1000000 in
theorem len_16 (n : Nat) (h0 : 65536 ≤ n) (h1 : n < 16777216) (w : World) : Calls Try.prog 61 #[.int .u64 (n : Int)] w fun e w' => e = .returned (.int .i64 (bsize n : Nat)) ∧ w = w' := by
  have c1 : decide ((4294967296 : Int) ≤ (n : Int)) = false := decide_eq_false (by omega)
  have c2 : decide ((65536 : Int) ≤ (n : Int)) = true := decide_eq_true (by omega)
  have c3 : decide ((256 : Int) ≤ (n : Int) / 65536) = false := decide_eq_false (by omega)
  have hB := len8_is ((n : Int) / 65536 % 256) (n / 65536) (by omega) (by omega)
  have hs := bsize_small (n / 65536) (by omega)
  have hu := bsize_up n 16 (by show 0 < n / 65536; omega)
  rw [show 2 ^ 16 = 65536 from rfl] at hu
  obtain ⟨b, hb⟩ : ∃ b, bsize (n / 65536) = b := ⟨_, rfl⟩
  rw [hb] at hB hs hu
  have HF := Lib.hid (show wrap64 (16 + wrap64 (Lib.len8 ((n : Int) / 65536 % 256))) = (bsize n : Nat) from by rw [hB, hu]; exact wrap_sum 16 b (by omega) (by omega))
  clear hu h0 h1 hs hb hB
  go_enter Try.func61, Try.ntmps61
  go_wp2
  go_ret
  exact ⟨congrArg Ending.returned (congrArg (Value.int IntKind.i64) HF.out), rfl⟩

set_option maxRecDepth 100000 in
set_option maxHeartbeats 1000000 in
theorem len_8 (n : Nat) (h0 : 256 ≤ n) (h1 : n < 65536) (w : World) : Calls Try.prog 61 #[.int .u64 (n : Int)] w fun e w' => e = .returned (.int .i64 (bsize n : Nat)) ∧ w = w' := by
  have c1 : decide ((4294967296 : Int) ≤ (n : Int)) = false := decide_eq_false (by omega)
  have c2 : decide ((65536 : Int) ≤ (n : Int)) = false := decide_eq_false (by omega)
  have c3 : decide ((256 : Int) ≤ (n : Int)) = true := decide_eq_true (by omega)
  have hB := len8_is ((n : Int) / 256 % 256) (n / 256) (by omega) (by omega)
  have hs := bsize_small (n / 256) (by omega)
  have hu := bsize_up n 8 (by show 0 < n / 256; omega)
  rw [show 2 ^ 8 = 256 from rfl] at hu
  obtain ⟨b, hb⟩ : ∃ b, bsize (n / 256) = b := ⟨_, rfl⟩
  rw [hb] at hB hs hu
  have HF := Lib.hid (show wrap64 (8 + wrap64 (Lib.len8 ((n : Int) / 256 % 256))) = (bsize n : Nat) from by rw [hB, hu]; exact wrap_sum 8 b (by omega) (by omega))
  clear hu h0 h1 hs hb hB
  go_enter Try.func61, Try.ntmps61
  go_wp2
  go_ret
  exact ⟨congrArg Ending.returned (congrArg (Value.int IntKind.i64) HF.out), rfl⟩

set_option maxRecDepth 100000 in
set_option maxHeartbeats 1000000 in
theorem len_0 (n : Nat) (h1 : n < 256) (w : World) : Calls Try.prog 61 #[.int .u64 (n : Int)] w fun e w' => e = .returned (.int .i64 (bsize n : Nat)) ∧ w = w' := by
  have c1 : decide ((4294967296 : Int) ≤ (n : Int)) = false := decide_eq_false (by omega)
  have c2 : decide ((65536 : Int) ≤ (n : Int)) = false := decide_eq_false (by omega)
  have c3 : decide ((256 : Int) ≤ (n : Int)) = false := decide_eq_false (by omega)
  have hB := len8_is ((n : Int) % 256) (n / 1) (by omega) (by omega)
  have hs := bsize_small (n / 1) (by omega)
  simp only [Nat.div_one] at hB hs
  obtain ⟨b, hb⟩ : ∃ b, bsize n = b := ⟨_, rfl⟩
  rw [hb] at hB hs
  have HF := Lib.hid (show wrap64 (wrap64 (Lib.len8 ((n : Int) % 256))) = (bsize n : Nat) from by rw [hB, hb]; exact wrap_one b (by omega))
  clear h1 hs hb hB
  go_enter Try.func61, Try.ntmps61
  go_wp2
  go_ret
  exact ⟨congrArg Ending.returned (congrArg (Value.int IntKind.i64) HF.out), rfl⟩

theorem Len64_raw (n : Nat) (h1 : n ≤ 18446744073709551615) (w : World) : Calls Try.prog 61 #[.int .u64 (n : Int)] w fun e w' => e = .returned (.int .i64 (bsize n : Nat)) ∧ w = w' := by
  by_cases g56 : 72057594037927936 ≤ n
  · exact len_56 n g56 (by omega) w
  by_cases g48 : 281474976710656 ≤ n
  · exact len_48 n g48 (by omega) w
  by_cases g40 : 1099511627776 ≤ n
  · exact len_40 n g40 (by omega) w
  by_cases g32 : 4294967296 ≤ n
  · exact len_32 n g32 (by omega) w
  by_cases g24 : 16777216 ≤ n
  · exact len_24 n g24 (by omega) w
  by_cases g16 : 65536 ≤ n
  · exact len_16 n g16 (by omega) w
  by_cases g8 : 256 ≤ n
  · exact len_8 n g8 (by omega) w
  exact len_0 n (by omega) w
end Go.Proofs.Ytdihbpfoalmlcaa
