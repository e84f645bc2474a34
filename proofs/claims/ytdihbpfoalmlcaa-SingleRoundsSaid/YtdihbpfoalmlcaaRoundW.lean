/- The program's Round, way by way (printed by a program of ours). -/
import Derived.Test.YtdihbpfoalmlcaaRoundP
namespace Go.Proofs.Ytdihbpfoalmlcaa
open Go.RowKit Ieee
set_option linter.unusedVariables false

def Rd (w : World) (x : Nat) (e : Ending) (w' : World) : Prop := e = .returned (.int .u32 (x : Int)) ∧ ∃ j, w' = w.drewN j

set_option maxRecDepth 100000 in
set_option maxHeartbeats 400000 in
theorem rw_A_zero (s : Bool) (m M B : Nat) (p0 p1 p2 p k : Int) (hmx : max p0 (-2000) = p1) (hmn : min p1 2000 = p2) (hM : m = M) (hp : p2 = p) (X : Nat) (hM0 : ((M : Int) == 0) = true) (hsg : ∀ W, Calls Try.prog 59 #[.bool s, .int .u32 0] W fun e w' => e = .returned (.int .u32 (X : Nat)) ∧ W = w') (w : World) : Calls Try.prog 37 #[.bool s, .int .u64 (m : Int), .int .i64 p0, .bool false] w (Rd w X) := by
  subst hM hp
  have HS := Lib.hid hsg
  clear hsg
  go_enter Try.func37, Try.ntmps37
  go_wp2_with (first
    | (go_at_call 59; refine (HS.out _).mono ?_; rintro e w' ⟨rfl, rfl⟩))
  go_ret
  exact ⟨rfl, by first | exact ⟨0, rfl⟩ | exact ⟨_, rfl⟩⟩

set_option maxRecDepth 100000 in
set_option maxHeartbeats 400000 in
theorem rw_A_upinf (s : Bool) (m M B : Nat) (p0 p1 p2 p k : Int) (hmx : max p0 (-2000) = p1) (hmn : min p1 2000 = p2) (hM : m = M) (hp : p2 = p) (X : Nat) (hl : ∀ W, Calls Try.prog 61 #[.int .u64 (M : Int)] W fun e w' => e = .returned (.int .i64 (B : Nat)) ∧ W = w') (hM0 : ((M : Int) == 0) = false) (w1 : IntKind.i64.wrap (p + (B : Int)) = p + B) (w2 : IntKind.i64.wrap (p + (B : Int) - 24) = p + B - 24) (hk : max (p + (B : Int) - 24) (-149) = k) (h1 : decide (k ≤ p) = true) (h2 : decide ((128 : Int) < p + B) = true) (hsg : ∀ W, Calls Try.prog 59 #[.bool s, .int .u32 2139095040] W fun e w' => e = .returned (.int .u32 (X : Nat)) ∧ W = w') (w : World) : Calls Try.prog 37 #[.bool s, .int .u64 (m : Int), .int .i64 p0, .bool false] w (Rd w X) := by
  subst hM hp
  have HL := Lib.hid hl
  clear hl
  have HS := Lib.hid hsg
  clear hsg
  go_enter Try.func37, Try.ntmps37
  go_wp2_with (first
    | (go_at_call 61; refine (HL.out _).mono ?_; rintro e w' ⟨rfl, rfl⟩)
    | (go_at_call 59; refine (HS.out _).mono ?_; rintro e w' ⟨rfl, rfl⟩))
  go_ret
  exact ⟨rfl, by first | exact ⟨0, rfl⟩ | exact ⟨_, rfl⟩⟩

set_option maxRecDepth 100000 in
set_option maxHeartbeats 400000 in
theorem rw_A_up (s : Bool) (m M B : Nat) (p0 p1 p2 p k : Int) (hmx : max p0 (-2000) = p1) (hmn : min p1 2000 = p2) (hM : m = M) (hp : p2 = p) (X L K q : Nat) (hl : ∀ W, Calls Try.prog 61 #[.int .u64 (M : Int)] W fun e w' => e = .returned (.int .i64 (B : Nat)) ∧ W = w') (hM0 : ((M : Int) == 0) = false) (w1 : IntKind.i64.wrap (p + (B : Int)) = p + B) (w2 : IntKind.i64.wrap (p + (B : Int) - 24) = p + B - 24) (hk : max (p + (B : Int) - 24) (-149) = k) (h1 : decide (k ≤ p) = true) (h2 : decide ((128 : Int) < p + B) = false) (hq : IntKind.i64.wrap (p - k) = (q : Int)) (hsh : IntKind.u64.wrap ((M : Int) * 2 ^ min q 64) = (K : Int)) (hK : (K : Int) % 4294967296 = (K : Int)) (hlaid : ∀ W, Calls Try.prog 60 #[.int .u32 (K : Int), .int .i64 k] W fun e w' => e = .returned (.int .u32 (L : Nat)) ∧ W = w') (hsg : ∀ W, Calls Try.prog 59 #[.bool s, .int .u32 (L : Int)] W fun e w' => e = .returned (.int .u32 (X : Nat)) ∧ W = w') (w : World) : Calls Try.prog 37 #[.bool s, .int .u64 (m : Int), .int .i64 p0, .bool false] w (Rd w X) := by
  subst hM hp
  have HL := Lib.hid hl
  clear hl
  have HS := Lib.hid hsg
  have HD := Lib.hid hlaid
  clear hsg hlaid
  go_enter Try.func37, Try.ntmps37
  go_wp2_with (first
    | (go_at_call 61; refine (HL.out _).mono ?_; rintro e w' ⟨rfl, rfl⟩)
    | (go_at_call 60; refine (HD.out _).mono ?_; rintro e w' ⟨rfl, rfl⟩)
    | (go_at_call 59; refine (HS.out _).mono ?_; rintro e w' ⟨rfl, rfl⟩))
  go_ret
  exact ⟨rfl, by first | exact ⟨0, rfl⟩ | exact ⟨_, rfl⟩⟩

set_option maxRecDepth 100000 in
set_option maxHeartbeats 400000 in
theorem rw_A_far (s : Bool) (m M B : Nat) (p0 p1 p2 p k : Int) (hmx : max p0 (-2000) = p1) (hmn : min p1 2000 = p2) (hM : m = M) (hp : p2 = p) (X n : Nat) (hl : ∀ W, Calls Try.prog 61 #[.int .u64 (M : Int)] W fun e w' => e = .returned (.int .i64 (B : Nat)) ∧ W = w') (hM0 : ((M : Int) == 0) = false) (w1 : IntKind.i64.wrap (p + (B : Int)) = p + B) (w2 : IntKind.i64.wrap (p + (B : Int) - 24) = p + B - 24) (hk : max (p + (B : Int) - 24) (-149) = k) (h1 : decide (k ≤ p) = false) (hn : IntKind.i64.wrap (k - p) = (n : Int)) (hn2 : decide ((64 : Int) < (n : Int)) = true) (hsg : ∀ W, Calls Try.prog 59 #[.bool s, .int .u32 0] W fun e w' => e = .returned (.int .u32 (X : Nat)) ∧ W = w') (w : World) : Calls Try.prog 37 #[.bool s, .int .u64 (m : Int), .int .i64 p0, .bool false] w (Rd w X) := by
  subst hM hp
  have HL := Lib.hid hl
  clear hl
  have HS := Lib.hid hsg
  clear hsg
  go_enter Try.func37, Try.ntmps37
  go_wp2_with (first
    | (go_at_call 61; refine (HL.out _).mono ?_; rintro e w' ⟨rfl, rfl⟩)
    | (go_at_call 59; refine (HS.out _).mono ?_; rintro e w' ⟨rfl, rfl⟩))
  go_ret
  exact ⟨rfl, by first | exact ⟨0, rfl⟩ | exact ⟨_, rfl⟩⟩

set_option maxRecDepth 100000 in
set_option maxHeartbeats 400000 in
theorem rw_A_down_above (s : Bool) (m M B : Nat) (p0 p1 p2 p k : Int) (hmx : max p0 (-2000) = p1) (hmn : min p1 2000 = p2) (hM : m = M) (hp : p2 = p) (X L K H Y T n n1 : Nat) (hl : ∀ W, Calls Try.prog 61 #[.int .u64 (M : Int)] W fun e w' => e = .returned (.int .i64 (B : Nat)) ∧ W = w') (hM0 : ((M : Int) == 0) = false) (w1 : IntKind.i64.wrap (p + (B : Int)) = p + B) (w2 : IntKind.i64.wrap (p + (B : Int) - 24) = p + B - 24) (hk : max (p + (B : Int) - 24) (-149) = k) (h1 : decide (k ≤ p) = false) (hn : IntKind.i64.wrap (k - p) = (n : Int)) (hn2 : decide ((64 : Int) < (n : Int)) = false) (hn1 : IntKind.i64.wrap ((n : Int) - 1) = (n1 : Int)) (hh : ∀ W, Sem.run Try.prog (Op.shift .shl .u64 1 .i64 (n1 : Int)) W = .ok (.int .u64 (H : Int)) W) (hh2 : IntKind.u64.wrap (2 ^ min n1 64) = (H : Int)) (h64 : decide ((n : Int) < 64) = true) (h64e : ((n : Int) == 64) = false) (hr : (M : Int) / 2 ^ min n 64 = (K : Int)) (hl2 : IntKind.u64.wrap ((K : Int) * 2 ^ min n 64) = (Y : Int)) (hT : IntKind.u64.wrap ((M : Int) - (Y : Int)) = (T : Int)) (hc1 : decide ((H : Int) < (T : Int)) = true) (g1 : H < T) (hinc : IntKind.u64.wrap ((K : Int) + 1) = (K : Int) + 1) (hov : ((K : Int) + 1 == 16777216) = false) (hFw : ((K : Int) + 1) % 4294967296 = ((K : Int) + 1)) (hlaid : ∀ W, Calls Try.prog 60 #[.int .u32 ((K : Int) + 1), .int .i64 k] W fun e w' => e = .returned (.int .u32 (L : Nat)) ∧ W = w') (hsg : ∀ W, Calls Try.prog 59 #[.bool s, .int .u32 (L : Int)] W fun e w' => e = .returned (.int .u32 (X : Nat)) ∧ W = w') (w : World) : Calls Try.prog 37 #[.bool s, .int .u64 (m : Int), .int .i64 p0, .bool false] w (Rd w X) := by
  subst hM hp
  have HL := Lib.hid hl
  clear hl
  have HS := Lib.hid hsg
  have HD := Lib.hid hlaid
  clear hsg hlaid
  go_enter Try.func37, Try.ntmps37
  go_wp2_with (first
    | (go_at_call 61; refine (HL.out _).mono ?_; rintro e w' ⟨rfl, rfl⟩))
  go_region_held3 (fun _ => True) (trivial) (fail)
  go_wp2_with (first
    | (go_at_call 60; refine (HD.out _).mono ?_; rintro e w' ⟨rfl, rfl⟩)
    | (go_at_call 59; refine (HS.out _).mono ?_; rintro e w' ⟨rfl, rfl⟩))
  go_ret
  exact ⟨rfl, by first | exact ⟨0, rfl⟩ | exact ⟨_, rfl⟩⟩

set_option maxRecDepth 100000 in
set_option maxHeartbeats 400000 in
theorem rw_A_down_tie_odd (s : Bool) (m M B : Nat) (p0 p1 p2 p k : Int) (hmx : max p0 (-2000) = p1) (hmn : min p1 2000 = p2) (hM : m = M) (hp : p2 = p) (X L K H Y T n n1 : Nat) (hl : ∀ W, Calls Try.prog 61 #[.int .u64 (M : Int)] W fun e w' => e = .returned (.int .i64 (B : Nat)) ∧ W = w') (hM0 : ((M : Int) == 0) = false) (w1 : IntKind.i64.wrap (p + (B : Int)) = p + B) (w2 : IntKind.i64.wrap (p + (B : Int) - 24) = p + B - 24) (hk : max (p + (B : Int) - 24) (-149) = k) (h1 : decide (k ≤ p) = false) (hn : IntKind.i64.wrap (k - p) = (n : Int)) (hn2 : decide ((64 : Int) < (n : Int)) = false) (hn1 : IntKind.i64.wrap ((n : Int) - 1) = (n1 : Int)) (hh : ∀ W, Sem.run Try.prog (Op.shift .shl .u64 1 .i64 (n1 : Int)) W = .ok (.int .u64 (H : Int)) W) (hh2 : IntKind.u64.wrap (2 ^ min n1 64) = (H : Int)) (h64 : decide ((n : Int) < 64) = true) (h64e : ((n : Int) == 64) = false) (hr : (M : Int) / 2 ^ min n 64 = (K : Int)) (hl2 : IntKind.u64.wrap ((K : Int) * 2 ^ min n 64) = (Y : Int)) (hT : IntKind.u64.wrap ((M : Int) - (Y : Int)) = (T : Int)) (hc1 : decide ((H : Int) < (T : Int)) = false) (g1 : ¬ H < T) (hc2 : ((T : Int) == (H : Int)) = true) (hod : bits .and .u64 (K : Int) 1 = 1) (hinc : IntKind.u64.wrap ((K : Int) + 1) = (K : Int) + 1) (hov : ((K : Int) + 1 == 16777216) = false) (hFw : ((K : Int) + 1) % 4294967296 = ((K : Int) + 1)) (hlaid : ∀ W, Calls Try.prog 60 #[.int .u32 ((K : Int) + 1), .int .i64 k] W fun e w' => e = .returned (.int .u32 (L : Nat)) ∧ W = w') (hsg : ∀ W, Calls Try.prog 59 #[.bool s, .int .u32 (L : Int)] W fun e w' => e = .returned (.int .u32 (X : Nat)) ∧ W = w') (w : World) : Calls Try.prog 37 #[.bool s, .int .u64 (m : Int), .int .i64 p0, .bool false] w (Rd w X) := by
  subst hM hp
  have HL := Lib.hid hl
  clear hl
  have HS := Lib.hid hsg
  have HD := Lib.hid hlaid
  clear hsg hlaid
  go_enter Try.func37, Try.ntmps37
  go_wp2_with (first
    | (go_at_call 61; refine (HL.out _).mono ?_; rintro e w' ⟨rfl, rfl⟩))
  go_region_held3 (fun _ => True) (trivial) (fail)
  go_wp2_with (first
    | (go_at_call 60; refine (HD.out _).mono ?_; rintro e w' ⟨rfl, rfl⟩)
    | (go_at_call 59; refine (HS.out _).mono ?_; rintro e w' ⟨rfl, rfl⟩))
  go_ret
  exact ⟨rfl, by first | exact ⟨0, rfl⟩ | exact ⟨_, rfl⟩⟩

set_option maxRecDepth 100000 in
set_option maxHeartbeats 400000 in
theorem rw_A_down_above_full (s : Bool) (m M B : Nat) (p0 p1 p2 p k : Int) (hmx : max p0 (-2000) = p1) (hmn : min p1 2000 = p2) (hM : m = M) (hp : p2 = p) (X L K H Y T n n1 : Nat) (hl : ∀ W, Calls Try.prog 61 #[.int .u64 (M : Int)] W fun e w' => e = .returned (.int .i64 (B : Nat)) ∧ W = w') (hM0 : ((M : Int) == 0) = false) (w1 : IntKind.i64.wrap (p + (B : Int)) = p + B) (w2 : IntKind.i64.wrap (p + (B : Int) - 24) = p + B - 24) (hk : max (p + (B : Int) - 24) (-149) = k) (h1 : decide (k ≤ p) = false) (hn : IntKind.i64.wrap (k - p) = (n : Int)) (hn2 : decide ((64 : Int) < (n : Int)) = false) (hn1 : IntKind.i64.wrap ((n : Int) - 1) = (n1 : Int)) (hh : ∀ W, Sem.run Try.prog (Op.shift .shl .u64 1 .i64 (n1 : Int)) W = .ok (.int .u64 (H : Int)) W) (hh2 : IntKind.u64.wrap (2 ^ min n1 64) = (H : Int)) (h64 : decide ((n : Int) < 64) = true) (h64e : ((n : Int) == 64) = false) (hr : (M : Int) / 2 ^ min n 64 = (K : Int)) (hl2 : IntKind.u64.wrap ((K : Int) * 2 ^ min n 64) = (Y : Int)) (hT : IntKind.u64.wrap ((M : Int) - (Y : Int)) = (T : Int)) (hc1 : decide ((H : Int) < (T : Int)) = true) (g1 : H < T) (hinc : IntKind.u64.wrap ((K : Int) + 1) = (K : Int) + 1) (hov : ((K : Int) + 1 == 16777216) = true) (hhalf : ((K : Int) + 1) / 2 = 8388608) (hk1 : IntKind.i64.wrap (k + 1) = k + 1) (hFw : 8388608 % 4294967296 = 8388608) (hlaid : ∀ W, Calls Try.prog 60 #[.int .u32 8388608, .int .i64 (k + 1)] W fun e w' => e = .returned (.int .u32 (L : Nat)) ∧ W = w') (hsg : ∀ W, Calls Try.prog 59 #[.bool s, .int .u32 (L : Int)] W fun e w' => e = .returned (.int .u32 (X : Nat)) ∧ W = w') (w : World) : Calls Try.prog 37 #[.bool s, .int .u64 (m : Int), .int .i64 p0, .bool false] w (Rd w X) := by
  subst hM hp
  have HL := Lib.hid hl
  clear hl
  have HS := Lib.hid hsg
  have HD := Lib.hid hlaid
  clear hsg hlaid
  go_enter Try.func37, Try.ntmps37
  go_wp2_with (first
    | (go_at_call 61; refine (HL.out _).mono ?_; rintro e w' ⟨rfl, rfl⟩))
  go_region_held3 (fun _ => True) (trivial) (fail)
  go_wp2_with (first
    | (go_at_call 60; refine (HD.out _).mono ?_; rintro e w' ⟨rfl, rfl⟩)
    | (go_at_call 59; refine (HS.out _).mono ?_; rintro e w' ⟨rfl, rfl⟩))
  go_ret
  exact ⟨rfl, by first | exact ⟨0, rfl⟩ | exact ⟨_, rfl⟩⟩

set_option maxRecDepth 100000 in
set_option maxHeartbeats 400000 in
theorem rw_A_down_tie_odd_full (s : Bool) (m M B : Nat) (p0 p1 p2 p k : Int) (hmx : max p0 (-2000) = p1) (hmn : min p1 2000 = p2) (hM : m = M) (hp : p2 = p) (X L K H Y T n n1 : Nat) (hl : ∀ W, Calls Try.prog 61 #[.int .u64 (M : Int)] W fun e w' => e = .returned (.int .i64 (B : Nat)) ∧ W = w') (hM0 : ((M : Int) == 0) = false) (w1 : IntKind.i64.wrap (p + (B : Int)) = p + B) (w2 : IntKind.i64.wrap (p + (B : Int) - 24) = p + B - 24) (hk : max (p + (B : Int) - 24) (-149) = k) (h1 : decide (k ≤ p) = false) (hn : IntKind.i64.wrap (k - p) = (n : Int)) (hn2 : decide ((64 : Int) < (n : Int)) = false) (hn1 : IntKind.i64.wrap ((n : Int) - 1) = (n1 : Int)) (hh : ∀ W, Sem.run Try.prog (Op.shift .shl .u64 1 .i64 (n1 : Int)) W = .ok (.int .u64 (H : Int)) W) (hh2 : IntKind.u64.wrap (2 ^ min n1 64) = (H : Int)) (h64 : decide ((n : Int) < 64) = true) (h64e : ((n : Int) == 64) = false) (hr : (M : Int) / 2 ^ min n 64 = (K : Int)) (hl2 : IntKind.u64.wrap ((K : Int) * 2 ^ min n 64) = (Y : Int)) (hT : IntKind.u64.wrap ((M : Int) - (Y : Int)) = (T : Int)) (hc1 : decide ((H : Int) < (T : Int)) = false) (g1 : ¬ H < T) (hc2 : ((T : Int) == (H : Int)) = true) (hod : bits .and .u64 (K : Int) 1 = 1) (hinc : IntKind.u64.wrap ((K : Int) + 1) = (K : Int) + 1) (hov : ((K : Int) + 1 == 16777216) = true) (hhalf : ((K : Int) + 1) / 2 = 8388608) (hk1 : IntKind.i64.wrap (k + 1) = k + 1) (hFw : 8388608 % 4294967296 = 8388608) (hlaid : ∀ W, Calls Try.prog 60 #[.int .u32 8388608, .int .i64 (k + 1)] W fun e w' => e = .returned (.int .u32 (L : Nat)) ∧ W = w') (hsg : ∀ W, Calls Try.prog 59 #[.bool s, .int .u32 (L : Int)] W fun e w' => e = .returned (.int .u32 (X : Nat)) ∧ W = w') (w : World) : Calls Try.prog 37 #[.bool s, .int .u64 (m : Int), .int .i64 p0, .bool false] w (Rd w X) := by
  subst hM hp
  have HL := Lib.hid hl
  clear hl
  have HS := Lib.hid hsg
  have HD := Lib.hid hlaid
  clear hsg hlaid
  go_enter Try.func37, Try.ntmps37
  go_wp2_with (first
    | (go_at_call 61; refine (HL.out _).mono ?_; rintro e w' ⟨rfl, rfl⟩))
  go_region_held3 (fun _ => True) (trivial) (fail)
  go_wp2_with (first
    | (go_at_call 60; refine (HD.out _).mono ?_; rintro e w' ⟨rfl, rfl⟩)
    | (go_at_call 59; refine (HS.out _).mono ?_; rintro e w' ⟨rfl, rfl⟩))
  go_ret
  exact ⟨rfl, by first | exact ⟨0, rfl⟩ | exact ⟨_, rfl⟩⟩

set_option maxRecDepth 100000 in
set_option maxHeartbeats 400000 in
theorem rw_A_down_tie_even (s : Bool) (m M B : Nat) (p0 p1 p2 p k : Int) (hmx : max p0 (-2000) = p1) (hmn : min p1 2000 = p2) (hM : m = M) (hp : p2 = p) (X L K H Y T n n1 : Nat) (hl : ∀ W, Calls Try.prog 61 #[.int .u64 (M : Int)] W fun e w' => e = .returned (.int .i64 (B : Nat)) ∧ W = w') (hM0 : ((M : Int) == 0) = false) (w1 : IntKind.i64.wrap (p + (B : Int)) = p + B) (w2 : IntKind.i64.wrap (p + (B : Int) - 24) = p + B - 24) (hk : max (p + (B : Int) - 24) (-149) = k) (h1 : decide (k ≤ p) = false) (hn : IntKind.i64.wrap (k - p) = (n : Int)) (hn2 : decide ((64 : Int) < (n : Int)) = false) (hn1 : IntKind.i64.wrap ((n : Int) - 1) = (n1 : Int)) (hh : ∀ W, Sem.run Try.prog (Op.shift .shl .u64 1 .i64 (n1 : Int)) W = .ok (.int .u64 (H : Int)) W) (hh2 : IntKind.u64.wrap (2 ^ min n1 64) = (H : Int)) (h64 : decide ((n : Int) < 64) = true) (h64e : ((n : Int) == 64) = false) (hr : (M : Int) / 2 ^ min n 64 = (K : Int)) (hl2 : IntKind.u64.wrap ((K : Int) * 2 ^ min n 64) = (Y : Int)) (hT : IntKind.u64.wrap ((M : Int) - (Y : Int)) = (T : Int)) (hc1 : decide ((H : Int) < (T : Int)) = false) (g1 : ¬ H < T) (hc2 : ((T : Int) == (H : Int)) = true) (hod : bits .and .u64 (K : Int) 1 = 0) (hov : ((K : Int) == 16777216) = false) (hFw : (K : Int) % 4294967296 = (K : Int)) (hlaid : ∀ W, Calls Try.prog 60 #[.int .u32 (K : Int), .int .i64 k] W fun e w' => e = .returned (.int .u32 (L : Nat)) ∧ W = w') (hsg : ∀ W, Calls Try.prog 59 #[.bool s, .int .u32 (L : Int)] W fun e w' => e = .returned (.int .u32 (X : Nat)) ∧ W = w') (w : World) : Calls Try.prog 37 #[.bool s, .int .u64 (m : Int), .int .i64 p0, .bool false] w (Rd w X) := by
  subst hM hp
  have HL := Lib.hid hl
  clear hl
  have HS := Lib.hid hsg
  have HD := Lib.hid hlaid
  clear hsg hlaid
  go_enter Try.func37, Try.ntmps37
  go_wp2_with (first
    | (go_at_call 61; refine (HL.out _).mono ?_; rintro e w' ⟨rfl, rfl⟩))
  go_region_held3 (fun _ => True) (trivial) (fail)
  go_wp2_with (first
    | (go_at_call 60; refine (HD.out _).mono ?_; rintro e w' ⟨rfl, rfl⟩)
    | (go_at_call 59; refine (HS.out _).mono ?_; rintro e w' ⟨rfl, rfl⟩))
  go_ret
  exact ⟨rfl, by first | exact ⟨0, rfl⟩ | exact ⟨_, rfl⟩⟩

set_option maxRecDepth 100000 in
set_option maxHeartbeats 400000 in
theorem rw_A_down_below (s : Bool) (m M B : Nat) (p0 p1 p2 p k : Int) (hmx : max p0 (-2000) = p1) (hmn : min p1 2000 = p2) (hM : m = M) (hp : p2 = p) (X L K H Y T n n1 : Nat) (hl : ∀ W, Calls Try.prog 61 #[.int .u64 (M : Int)] W fun e w' => e = .returned (.int .i64 (B : Nat)) ∧ W = w') (hM0 : ((M : Int) == 0) = false) (w1 : IntKind.i64.wrap (p + (B : Int)) = p + B) (w2 : IntKind.i64.wrap (p + (B : Int) - 24) = p + B - 24) (hk : max (p + (B : Int) - 24) (-149) = k) (h1 : decide (k ≤ p) = false) (hn : IntKind.i64.wrap (k - p) = (n : Int)) (hn2 : decide ((64 : Int) < (n : Int)) = false) (hn1 : IntKind.i64.wrap ((n : Int) - 1) = (n1 : Int)) (hh : ∀ W, Sem.run Try.prog (Op.shift .shl .u64 1 .i64 (n1 : Int)) W = .ok (.int .u64 (H : Int)) W) (hh2 : IntKind.u64.wrap (2 ^ min n1 64) = (H : Int)) (h64 : decide ((n : Int) < 64) = true) (h64e : ((n : Int) == 64) = false) (hr : (M : Int) / 2 ^ min n 64 = (K : Int)) (hl2 : IntKind.u64.wrap ((K : Int) * 2 ^ min n 64) = (Y : Int)) (hT : IntKind.u64.wrap ((M : Int) - (Y : Int)) = (T : Int)) (hc1 : decide ((H : Int) < (T : Int)) = false) (g1 : ¬ H < T) (hc2 : ((T : Int) == (H : Int)) = false) (hov : ((K : Int) == 16777216) = false) (hFw : (K : Int) % 4294967296 = (K : Int)) (hlaid : ∀ W, Calls Try.prog 60 #[.int .u32 (K : Int), .int .i64 k] W fun e w' => e = .returned (.int .u32 (L : Nat)) ∧ W = w') (hsg : ∀ W, Calls Try.prog 59 #[.bool s, .int .u32 (L : Int)] W fun e w' => e = .returned (.int .u32 (X : Nat)) ∧ W = w') (w : World) : Calls Try.prog 37 #[.bool s, .int .u64 (m : Int), .int .i64 p0, .bool false] w (Rd w X) := by
  subst hM hp
  have HL := Lib.hid hl
  clear hl
  have HS := Lib.hid hsg
  have HD := Lib.hid hlaid
  clear hsg hlaid
  go_enter Try.func37, Try.ntmps37
  go_wp2_with (first
    | (go_at_call 61; refine (HL.out _).mono ?_; rintro e w' ⟨rfl, rfl⟩))
  go_region_held3 (fun _ => True) (trivial) (fail)
  go_wp2_with (first
    | (go_at_call 60; refine (HD.out _).mono ?_; rintro e w' ⟨rfl, rfl⟩)
    | (go_at_call 59; refine (HS.out _).mono ?_; rintro e w' ⟨rfl, rfl⟩))
  go_ret
  exact ⟨rfl, by first | exact ⟨0, rfl⟩ | exact ⟨_, rfl⟩⟩

set_option maxRecDepth 100000 in
set_option maxHeartbeats 400000 in
theorem rw_A_down64_above (s : Bool) (m M B : Nat) (p0 p1 p2 p k : Int) (hmx : max p0 (-2000) = p1) (hmn : min p1 2000 = p2) (hM : m = M) (hp : p2 = p) (X L H n n1 : Nat) (hl : ∀ W, Calls Try.prog 61 #[.int .u64 (M : Int)] W fun e w' => e = .returned (.int .i64 (B : Nat)) ∧ W = w') (hM0 : ((M : Int) == 0) = false) (w1 : IntKind.i64.wrap (p + (B : Int)) = p + B) (w2 : IntKind.i64.wrap (p + (B : Int) - 24) = p + B - 24) (hk : max (p + (B : Int) - 24) (-149) = k) (h1 : decide (k ≤ p) = false) (hn : IntKind.i64.wrap (k - p) = (n : Int)) (hn2 : decide ((64 : Int) < (n : Int)) = false) (hn1 : IntKind.i64.wrap ((n : Int) - 1) = (n1 : Int)) (hh : ∀ W, Sem.run Try.prog (Op.shift .shl .u64 1 .i64 (n1 : Int)) W = .ok (.int .u64 (H : Int)) W) (hh2 : IntKind.u64.wrap (2 ^ min n1 64) = (H : Int)) (h64 : decide ((n : Int) < 64) = false) (h64e : ((n : Int) == 64) = true) (hc1 : decide ((H : Int) < (M : Int)) = true) (g1 : H < M) (hinc : IntKind.u64.wrap (0 + 1) = 0 + 1) (hov : (0 + 1 == 16777216) = false) (hFw : 1 % 4294967296 = 1) (hlaid : ∀ W, Calls Try.prog 60 #[.int .u32 1, .int .i64 k] W fun e w' => e = .returned (.int .u32 (L : Nat)) ∧ W = w') (hsg : ∀ W, Calls Try.prog 59 #[.bool s, .int .u32 (L : Int)] W fun e w' => e = .returned (.int .u32 (X : Nat)) ∧ W = w') (w : World) : Calls Try.prog 37 #[.bool s, .int .u64 (m : Int), .int .i64 p0, .bool false] w (Rd w X) := by
  subst hM hp
  have HL := Lib.hid hl
  clear hl
  have HS := Lib.hid hsg
  have HD := Lib.hid hlaid
  clear hsg hlaid
  go_enter Try.func37, Try.ntmps37
  go_wp2_with (first
    | (go_at_call 61; refine (HL.out _).mono ?_; rintro e w' ⟨rfl, rfl⟩))
  go_region_held3 (fun _ => True) (trivial) (fail)
  go_wp2_with (first
    | (go_at_call 60; refine (HD.out _).mono ?_; rintro e w' ⟨rfl, rfl⟩)
    | (go_at_call 59; refine (HS.out _).mono ?_; rintro e w' ⟨rfl, rfl⟩))
  go_ret
  exact ⟨rfl, by first | exact ⟨0, rfl⟩ | exact ⟨_, rfl⟩⟩

set_option maxRecDepth 100000 in
set_option maxHeartbeats 400000 in
theorem rw_A_down64_tie_even (s : Bool) (m M B : Nat) (p0 p1 p2 p k : Int) (hmx : max p0 (-2000) = p1) (hmn : min p1 2000 = p2) (hM : m = M) (hp : p2 = p) (X L H n n1 : Nat) (hl : ∀ W, Calls Try.prog 61 #[.int .u64 (M : Int)] W fun e w' => e = .returned (.int .i64 (B : Nat)) ∧ W = w') (hM0 : ((M : Int) == 0) = false) (w1 : IntKind.i64.wrap (p + (B : Int)) = p + B) (w2 : IntKind.i64.wrap (p + (B : Int) - 24) = p + B - 24) (hk : max (p + (B : Int) - 24) (-149) = k) (h1 : decide (k ≤ p) = false) (hn : IntKind.i64.wrap (k - p) = (n : Int)) (hn2 : decide ((64 : Int) < (n : Int)) = false) (hn1 : IntKind.i64.wrap ((n : Int) - 1) = (n1 : Int)) (hh : ∀ W, Sem.run Try.prog (Op.shift .shl .u64 1 .i64 (n1 : Int)) W = .ok (.int .u64 (H : Int)) W) (hh2 : IntKind.u64.wrap (2 ^ min n1 64) = (H : Int)) (h64 : decide ((n : Int) < 64) = false) (h64e : ((n : Int) == 64) = true) (hc1 : decide ((H : Int) < (M : Int)) = false) (g1 : ¬ H < M) (hc2 : ((M : Int) == (H : Int)) = true) (hod : bits .and .u64 0 1 = 0) (hov : (0 == 16777216) = false) (hFw : 0 % 4294967296 = 0) (hlaid : ∀ W, Calls Try.prog 60 #[.int .u32 0, .int .i64 k] W fun e w' => e = .returned (.int .u32 (L : Nat)) ∧ W = w') (hsg : ∀ W, Calls Try.prog 59 #[.bool s, .int .u32 (L : Int)] W fun e w' => e = .returned (.int .u32 (X : Nat)) ∧ W = w') (w : World) : Calls Try.prog 37 #[.bool s, .int .u64 (m : Int), .int .i64 p0, .bool false] w (Rd w X) := by
  subst hM hp
  have HL := Lib.hid hl
  clear hl
  have HS := Lib.hid hsg
  have HD := Lib.hid hlaid
  clear hsg hlaid
  go_enter Try.func37, Try.ntmps37
  go_wp2_with (first
    | (go_at_call 61; refine (HL.out _).mono ?_; rintro e w' ⟨rfl, rfl⟩))
  go_region_held3 (fun _ => True) (trivial) (fail)
  go_wp2_with (first
    | (go_at_call 60; refine (HD.out _).mono ?_; rintro e w' ⟨rfl, rfl⟩)
    | (go_at_call 59; refine (HS.out _).mono ?_; rintro e w' ⟨rfl, rfl⟩))
  go_ret
  exact ⟨rfl, by first | exact ⟨0, rfl⟩ | exact ⟨_, rfl⟩⟩

set_option maxRecDepth 100000 in
set_option maxHeartbeats 400000 in
theorem rw_A_down64_below (s : Bool) (m M B : Nat) (p0 p1 p2 p k : Int) (hmx : max p0 (-2000) = p1) (hmn : min p1 2000 = p2) (hM : m = M) (hp : p2 = p) (X L H n n1 : Nat) (hl : ∀ W, Calls Try.prog 61 #[.int .u64 (M : Int)] W fun e w' => e = .returned (.int .i64 (B : Nat)) ∧ W = w') (hM0 : ((M : Int) == 0) = false) (w1 : IntKind.i64.wrap (p + (B : Int)) = p + B) (w2 : IntKind.i64.wrap (p + (B : Int) - 24) = p + B - 24) (hk : max (p + (B : Int) - 24) (-149) = k) (h1 : decide (k ≤ p) = false) (hn : IntKind.i64.wrap (k - p) = (n : Int)) (hn2 : decide ((64 : Int) < (n : Int)) = false) (hn1 : IntKind.i64.wrap ((n : Int) - 1) = (n1 : Int)) (hh : ∀ W, Sem.run Try.prog (Op.shift .shl .u64 1 .i64 (n1 : Int)) W = .ok (.int .u64 (H : Int)) W) (hh2 : IntKind.u64.wrap (2 ^ min n1 64) = (H : Int)) (h64 : decide ((n : Int) < 64) = false) (h64e : ((n : Int) == 64) = true) (hc1 : decide ((H : Int) < (M : Int)) = false) (g1 : ¬ H < M) (hc2 : ((M : Int) == (H : Int)) = false) (hov : (0 == 16777216) = false) (hFw : 0 % 4294967296 = 0) (hlaid : ∀ W, Calls Try.prog 60 #[.int .u32 0, .int .i64 k] W fun e w' => e = .returned (.int .u32 (L : Nat)) ∧ W = w') (hsg : ∀ W, Calls Try.prog 59 #[.bool s, .int .u32 (L : Int)] W fun e w' => e = .returned (.int .u32 (X : Nat)) ∧ W = w') (w : World) : Calls Try.prog 37 #[.bool s, .int .u64 (m : Int), .int .i64 p0, .bool false] w (Rd w X) := by
  subst hM hp
  have HL := Lib.hid hl
  clear hl
  have HS := Lib.hid hsg
  have HD := Lib.hid hlaid
  clear hsg hlaid
  go_enter Try.func37, Try.ntmps37
  go_wp2_with (first
    | (go_at_call 61; refine (HL.out _).mono ?_; rintro e w' ⟨rfl, rfl⟩))
  go_region_held3 (fun _ => True) (trivial) (fail)
  go_wp2_with (first
    | (go_at_call 60; refine (HD.out _).mono ?_; rintro e w' ⟨rfl, rfl⟩)
    | (go_at_call 59; refine (HS.out _).mono ?_; rintro e w' ⟨rfl, rfl⟩))
  go_ret
  exact ⟨rfl, by first | exact ⟨0, rfl⟩ | exact ⟨_, rfl⟩⟩

set_option maxRecDepth 100000 in
set_option maxHeartbeats 400000 in
theorem rw_B_upinf (s : Bool) (m M B : Nat) (p0 p1 p2 p k : Int) (hmx : max p0 (-2000) = p1) (hmn : min p1 2000 = p2) (h63 : decide ((m : Int) < 9223372036854775808) = true) (hw2 : IntKind.u64.wrap ((m : Int) * 2) = (m : Int) * 2) (hor : bits .or .u64 ((m : Int) * 2) 1 = (M : Int)) (hpw : IntKind.i64.wrap (p2 - 1) = p) (X : Nat) (hl : ∀ W, Calls Try.prog 61 #[.int .u64 (M : Int)] W fun e w' => e = .returned (.int .i64 (B : Nat)) ∧ W = w') (hM0 : ((M : Int) == 0) = false) (w1 : IntKind.i64.wrap (p + (B : Int)) = p + B) (w2 : IntKind.i64.wrap (p + (B : Int) - 24) = p + B - 24) (hk : max (p + (B : Int) - 24) (-149) = k) (h1 : decide (k ≤ p) = true) (h2 : decide ((128 : Int) < p + B) = true) (hsg : ∀ W, Calls Try.prog 59 #[.bool s, .int .u32 2139095040] W fun e w' => e = .returned (.int .u32 (X : Nat)) ∧ W = w') (w : World) : Calls Try.prog 37 #[.bool s, .int .u64 (m : Int), .int .i64 p0, .bool true] w (Rd w X) := by
  have HL := Lib.hid hl
  clear hl
  have HS := Lib.hid hsg
  clear hsg
  go_enter Try.func37, Try.ntmps37
  go_wp2_with (first
    | (go_at_call 61; refine (HL.out _).mono ?_; rintro e w' ⟨rfl, rfl⟩)
    | (go_at_call 59; refine (HS.out _).mono ?_; rintro e w' ⟨rfl, rfl⟩))
  go_ret
  exact ⟨rfl, by first | exact ⟨0, rfl⟩ | exact ⟨_, rfl⟩⟩

set_option maxRecDepth 100000 in
set_option maxHeartbeats 400000 in
theorem rw_B_up (s : Bool) (m M B : Nat) (p0 p1 p2 p k : Int) (hmx : max p0 (-2000) = p1) (hmn : min p1 2000 = p2) (h63 : decide ((m : Int) < 9223372036854775808) = true) (hw2 : IntKind.u64.wrap ((m : Int) * 2) = (m : Int) * 2) (hor : bits .or .u64 ((m : Int) * 2) 1 = (M : Int)) (hpw : IntKind.i64.wrap (p2 - 1) = p) (X L K q : Nat) (hl : ∀ W, Calls Try.prog 61 #[.int .u64 (M : Int)] W fun e w' => e = .returned (.int .i64 (B : Nat)) ∧ W = w') (hM0 : ((M : Int) == 0) = false) (w1 : IntKind.i64.wrap (p + (B : Int)) = p + B) (w2 : IntKind.i64.wrap (p + (B : Int) - 24) = p + B - 24) (hk : max (p + (B : Int) - 24) (-149) = k) (h1 : decide (k ≤ p) = true) (h2 : decide ((128 : Int) < p + B) = false) (hq : IntKind.i64.wrap (p - k) = (q : Int)) (hsh : IntKind.u64.wrap ((M : Int) * 2 ^ min q 64) = (K : Int)) (hK : (K : Int) % 4294967296 = (K : Int)) (hlaid : ∀ W, Calls Try.prog 60 #[.int .u32 (K : Int), .int .i64 k] W fun e w' => e = .returned (.int .u32 (L : Nat)) ∧ W = w') (hsg : ∀ W, Calls Try.prog 59 #[.bool s, .int .u32 (L : Int)] W fun e w' => e = .returned (.int .u32 (X : Nat)) ∧ W = w') (w : World) : Calls Try.prog 37 #[.bool s, .int .u64 (m : Int), .int .i64 p0, .bool true] w (Rd w X) := by
  have HL := Lib.hid hl
  clear hl
  have HS := Lib.hid hsg
  have HD := Lib.hid hlaid
  clear hsg hlaid
  go_enter Try.func37, Try.ntmps37
  go_wp2_with (first
    | (go_at_call 61; refine (HL.out _).mono ?_; rintro e w' ⟨rfl, rfl⟩)
    | (go_at_call 60; refine (HD.out _).mono ?_; rintro e w' ⟨rfl, rfl⟩)
    | (go_at_call 59; refine (HS.out _).mono ?_; rintro e w' ⟨rfl, rfl⟩))
  go_ret
  exact ⟨rfl, by first | exact ⟨0, rfl⟩ | exact ⟨_, rfl⟩⟩

set_option maxRecDepth 100000 in
set_option maxHeartbeats 400000 in
theorem rw_B_far (s : Bool) (m M B : Nat) (p0 p1 p2 p k : Int) (hmx : max p0 (-2000) = p1) (hmn : min p1 2000 = p2) (h63 : decide ((m : Int) < 9223372036854775808) = true) (hw2 : IntKind.u64.wrap ((m : Int) * 2) = (m : Int) * 2) (hor : bits .or .u64 ((m : Int) * 2) 1 = (M : Int)) (hpw : IntKind.i64.wrap (p2 - 1) = p) (X n : Nat) (hl : ∀ W, Calls Try.prog 61 #[.int .u64 (M : Int)] W fun e w' => e = .returned (.int .i64 (B : Nat)) ∧ W = w') (hM0 : ((M : Int) == 0) = false) (w1 : IntKind.i64.wrap (p + (B : Int)) = p + B) (w2 : IntKind.i64.wrap (p + (B : Int) - 24) = p + B - 24) (hk : max (p + (B : Int) - 24) (-149) = k) (h1 : decide (k ≤ p) = false) (hn : IntKind.i64.wrap (k - p) = (n : Int)) (hn2 : decide ((64 : Int) < (n : Int)) = true) (hsg : ∀ W, Calls Try.prog 59 #[.bool s, .int .u32 0] W fun e w' => e = .returned (.int .u32 (X : Nat)) ∧ W = w') (w : World) : Calls Try.prog 37 #[.bool s, .int .u64 (m : Int), .int .i64 p0, .bool true] w (Rd w X) := by
  have HL := Lib.hid hl
  clear hl
  have HS := Lib.hid hsg
  clear hsg
  go_enter Try.func37, Try.ntmps37
  go_wp2_with (first
    | (go_at_call 61; refine (HL.out _).mono ?_; rintro e w' ⟨rfl, rfl⟩)
    | (go_at_call 59; refine (HS.out _).mono ?_; rintro e w' ⟨rfl, rfl⟩))
  go_ret
  exact ⟨rfl, by first | exact ⟨0, rfl⟩ | exact ⟨_, rfl⟩⟩

set_option maxRecDepth 100000 in
set_option maxHeartbeats 400000 in
theorem rw_B_down_above (s : Bool) (m M B : Nat) (p0 p1 p2 p k : Int) (hmx : max p0 (-2000) = p1) (hmn : min p1 2000 = p2) (h63 : decide ((m : Int) < 9223372036854775808) = true) (hw2 : IntKind.u64.wrap ((m : Int) * 2) = (m : Int) * 2) (hor : bits .or .u64 ((m : Int) * 2) 1 = (M : Int)) (hpw : IntKind.i64.wrap (p2 - 1) = p) (X L K H Y T n n1 : Nat) (hl : ∀ W, Calls Try.prog 61 #[.int .u64 (M : Int)] W fun e w' => e = .returned (.int .i64 (B : Nat)) ∧ W = w') (hM0 : ((M : Int) == 0) = false) (w1 : IntKind.i64.wrap (p + (B : Int)) = p + B) (w2 : IntKind.i64.wrap (p + (B : Int) - 24) = p + B - 24) (hk : max (p + (B : Int) - 24) (-149) = k) (h1 : decide (k ≤ p) = false) (hn : IntKind.i64.wrap (k - p) = (n : Int)) (hn2 : decide ((64 : Int) < (n : Int)) = false) (hn1 : IntKind.i64.wrap ((n : Int) - 1) = (n1 : Int)) (hh : ∀ W, Sem.run Try.prog (Op.shift .shl .u64 1 .i64 (n1 : Int)) W = .ok (.int .u64 (H : Int)) W) (hh2 : IntKind.u64.wrap (2 ^ min n1 64) = (H : Int)) (h64 : decide ((n : Int) < 64) = true) (h64e : ((n : Int) == 64) = false) (hr : (M : Int) / 2 ^ min n 64 = (K : Int)) (hl2 : IntKind.u64.wrap ((K : Int) * 2 ^ min n 64) = (Y : Int)) (hT : IntKind.u64.wrap ((M : Int) - (Y : Int)) = (T : Int)) (hc1 : decide ((H : Int) < (T : Int)) = true) (g1 : H < T) (hinc : IntKind.u64.wrap ((K : Int) + 1) = (K : Int) + 1) (hov : ((K : Int) + 1 == 16777216) = false) (hFw : ((K : Int) + 1) % 4294967296 = ((K : Int) + 1)) (hlaid : ∀ W, Calls Try.prog 60 #[.int .u32 ((K : Int) + 1), .int .i64 k] W fun e w' => e = .returned (.int .u32 (L : Nat)) ∧ W = w') (hsg : ∀ W, Calls Try.prog 59 #[.bool s, .int .u32 (L : Int)] W fun e w' => e = .returned (.int .u32 (X : Nat)) ∧ W = w') (w : World) : Calls Try.prog 37 #[.bool s, .int .u64 (m : Int), .int .i64 p0, .bool true] w (Rd w X) := by
  have HL := Lib.hid hl
  clear hl
  have HS := Lib.hid hsg
  have HD := Lib.hid hlaid
  clear hsg hlaid
  go_enter Try.func37, Try.ntmps37
  go_wp2_with (first
    | (go_at_call 61; refine (HL.out _).mono ?_; rintro e w' ⟨rfl, rfl⟩))
  go_region_held3 (fun _ => True) (trivial) (fail)
  go_wp2_with (first
    | (go_at_call 60; refine (HD.out _).mono ?_; rintro e w' ⟨rfl, rfl⟩)
    | (go_at_call 59; refine (HS.out _).mono ?_; rintro e w' ⟨rfl, rfl⟩))
  go_ret
  exact ⟨rfl, by first | exact ⟨0, rfl⟩ | exact ⟨_, rfl⟩⟩

set_option maxRecDepth 100000 in
set_option maxHeartbeats 400000 in
theorem rw_B_down_tie_odd (s : Bool) (m M B : Nat) (p0 p1 p2 p k : Int) (hmx : max p0 (-2000) = p1) (hmn : min p1 2000 = p2) (h63 : decide ((m : Int) < 9223372036854775808) = true) (hw2 : IntKind.u64.wrap ((m : Int) * 2) = (m : Int) * 2) (hor : bits .or .u64 ((m : Int) * 2) 1 = (M : Int)) (hpw : IntKind.i64.wrap (p2 - 1) = p) (X L K H Y T n n1 : Nat) (hl : ∀ W, Calls Try.prog 61 #[.int .u64 (M : Int)] W fun e w' => e = .returned (.int .i64 (B : Nat)) ∧ W = w') (hM0 : ((M : Int) == 0) = false) (w1 : IntKind.i64.wrap (p + (B : Int)) = p + B) (w2 : IntKind.i64.wrap (p + (B : Int) - 24) = p + B - 24) (hk : max (p + (B : Int) - 24) (-149) = k) (h1 : decide (k ≤ p) = false) (hn : IntKind.i64.wrap (k - p) = (n : Int)) (hn2 : decide ((64 : Int) < (n : Int)) = false) (hn1 : IntKind.i64.wrap ((n : Int) - 1) = (n1 : Int)) (hh : ∀ W, Sem.run Try.prog (Op.shift .shl .u64 1 .i64 (n1 : Int)) W = .ok (.int .u64 (H : Int)) W) (hh2 : IntKind.u64.wrap (2 ^ min n1 64) = (H : Int)) (h64 : decide ((n : Int) < 64) = true) (h64e : ((n : Int) == 64) = false) (hr : (M : Int) / 2 ^ min n 64 = (K : Int)) (hl2 : IntKind.u64.wrap ((K : Int) * 2 ^ min n 64) = (Y : Int)) (hT : IntKind.u64.wrap ((M : Int) - (Y : Int)) = (T : Int)) (hc1 : decide ((H : Int) < (T : Int)) = false) (g1 : ¬ H < T) (hc2 : ((T : Int) == (H : Int)) = true) (hod : bits .and .u64 (K : Int) 1 = 1) (hinc : IntKind.u64.wrap ((K : Int) + 1) = (K : Int) + 1) (hov : ((K : Int) + 1 == 16777216) = false) (hFw : ((K : Int) + 1) % 4294967296 = ((K : Int) + 1)) (hlaid : ∀ W, Calls Try.prog 60 #[.int .u32 ((K : Int) + 1), .int .i64 k] W fun e w' => e = .returned (.int .u32 (L : Nat)) ∧ W = w') (hsg : ∀ W, Calls Try.prog 59 #[.bool s, .int .u32 (L : Int)] W fun e w' => e = .returned (.int .u32 (X : Nat)) ∧ W = w') (w : World) : Calls Try.prog 37 #[.bool s, .int .u64 (m : Int), .int .i64 p0, .bool true] w (Rd w X) := by
  have HL := Lib.hid hl
  clear hl
  have HS := Lib.hid hsg
  have HD := Lib.hid hlaid
  clear hsg hlaid
  go_enter Try.func37, Try.ntmps37
  go_wp2_with (first
    | (go_at_call 61; refine (HL.out _).mono ?_; rintro e w' ⟨rfl, rfl⟩))
  go_region_held3 (fun _ => True) (trivial) (fail)
  go_wp2_with (first
    | (go_at_call 60; refine (HD.out _).mono ?_; rintro e w' ⟨rfl, rfl⟩)
    | (go_at_call 59; refine (HS.out _).mono ?_; rintro e w' ⟨rfl, rfl⟩))
  go_ret
  exact ⟨rfl, by first | exact ⟨0, rfl⟩ | exact ⟨_, rfl⟩⟩

set_option maxRecDepth 100000 in
set_option maxHeartbeats 400000 in
theorem rw_B_down_above_full (s : Bool) (m M B : Nat) (p0 p1 p2 p k : Int) (hmx : max p0 (-2000) = p1) (hmn : min p1 2000 = p2) (h63 : decide ((m : Int) < 9223372036854775808) = true) (hw2 : IntKind.u64.wrap ((m : Int) * 2) = (m : Int) * 2) (hor : bits .or .u64 ((m : Int) * 2) 1 = (M : Int)) (hpw : IntKind.i64.wrap (p2 - 1) = p) (X L K H Y T n n1 : Nat) (hl : ∀ W, Calls Try.prog 61 #[.int .u64 (M : Int)] W fun e w' => e = .returned (.int .i64 (B : Nat)) ∧ W = w') (hM0 : ((M : Int) == 0) = false) (w1 : IntKind.i64.wrap (p + (B : Int)) = p + B) (w2 : IntKind.i64.wrap (p + (B : Int) - 24) = p + B - 24) (hk : max (p + (B : Int) - 24) (-149) = k) (h1 : decide (k ≤ p) = false) (hn : IntKind.i64.wrap (k - p) = (n : Int)) (hn2 : decide ((64 : Int) < (n : Int)) = false) (hn1 : IntKind.i64.wrap ((n : Int) - 1) = (n1 : Int)) (hh : ∀ W, Sem.run Try.prog (Op.shift .shl .u64 1 .i64 (n1 : Int)) W = .ok (.int .u64 (H : Int)) W) (hh2 : IntKind.u64.wrap (2 ^ min n1 64) = (H : Int)) (h64 : decide ((n : Int) < 64) = true) (h64e : ((n : Int) == 64) = false) (hr : (M : Int) / 2 ^ min n 64 = (K : Int)) (hl2 : IntKind.u64.wrap ((K : Int) * 2 ^ min n 64) = (Y : Int)) (hT : IntKind.u64.wrap ((M : Int) - (Y : Int)) = (T : Int)) (hc1 : decide ((H : Int) < (T : Int)) = true) (g1 : H < T) (hinc : IntKind.u64.wrap ((K : Int) + 1) = (K : Int) + 1) (hov : ((K : Int) + 1 == 16777216) = true) (hhalf : ((K : Int) + 1) / 2 = 8388608) (hk1 : IntKind.i64.wrap (k + 1) = k + 1) (hFw : 8388608 % 4294967296 = 8388608) (hlaid : ∀ W, Calls Try.prog 60 #[.int .u32 8388608, .int .i64 (k + 1)] W fun e w' => e = .returned (.int .u32 (L : Nat)) ∧ W = w') (hsg : ∀ W, Calls Try.prog 59 #[.bool s, .int .u32 (L : Int)] W fun e w' => e = .returned (.int .u32 (X : Nat)) ∧ W = w') (w : World) : Calls Try.prog 37 #[.bool s, .int .u64 (m : Int), .int .i64 p0, .bool true] w (Rd w X) := by
  have HL := Lib.hid hl
  clear hl
  have HS := Lib.hid hsg
  have HD := Lib.hid hlaid
  clear hsg hlaid
  go_enter Try.func37, Try.ntmps37
  go_wp2_with (first
    | (go_at_call 61; refine (HL.out _).mono ?_; rintro e w' ⟨rfl, rfl⟩))
  go_region_held3 (fun _ => True) (trivial) (fail)
  go_wp2_with (first
    | (go_at_call 60; refine (HD.out _).mono ?_; rintro e w' ⟨rfl, rfl⟩)
    | (go_at_call 59; refine (HS.out _).mono ?_; rintro e w' ⟨rfl, rfl⟩))
  go_ret
  exact ⟨rfl, by first | exact ⟨0, rfl⟩ | exact ⟨_, rfl⟩⟩

set_option maxRecDepth 100000 in
set_option maxHeartbeats 400000 in
theorem rw_B_down_tie_odd_full (s : Bool) (m M B : Nat) (p0 p1 p2 p k : Int) (hmx : max p0 (-2000) = p1) (hmn : min p1 2000 = p2) (h63 : decide ((m : Int) < 9223372036854775808) = true) (hw2 : IntKind.u64.wrap ((m : Int) * 2) = (m : Int) * 2) (hor : bits .or .u64 ((m : Int) * 2) 1 = (M : Int)) (hpw : IntKind.i64.wrap (p2 - 1) = p) (X L K H Y T n n1 : Nat) (hl : ∀ W, Calls Try.prog 61 #[.int .u64 (M : Int)] W fun e w' => e = .returned (.int .i64 (B : Nat)) ∧ W = w') (hM0 : ((M : Int) == 0) = false) (w1 : IntKind.i64.wrap (p + (B : Int)) = p + B) (w2 : IntKind.i64.wrap (p + (B : Int) - 24) = p + B - 24) (hk : max (p + (B : Int) - 24) (-149) = k) (h1 : decide (k ≤ p) = false) (hn : IntKind.i64.wrap (k - p) = (n : Int)) (hn2 : decide ((64 : Int) < (n : Int)) = false) (hn1 : IntKind.i64.wrap ((n : Int) - 1) = (n1 : Int)) (hh : ∀ W, Sem.run Try.prog (Op.shift .shl .u64 1 .i64 (n1 : Int)) W = .ok (.int .u64 (H : Int)) W) (hh2 : IntKind.u64.wrap (2 ^ min n1 64) = (H : Int)) (h64 : decide ((n : Int) < 64) = true) (h64e : ((n : Int) == 64) = false) (hr : (M : Int) / 2 ^ min n 64 = (K : Int)) (hl2 : IntKind.u64.wrap ((K : Int) * 2 ^ min n 64) = (Y : Int)) (hT : IntKind.u64.wrap ((M : Int) - (Y : Int)) = (T : Int)) (hc1 : decide ((H : Int) < (T : Int)) = false) (g1 : ¬ H < T) (hc2 : ((T : Int) == (H : Int)) = true) (hod : bits .and .u64 (K : Int) 1 = 1) (hinc : IntKind.u64.wrap ((K : Int) + 1) = (K : Int) + 1) (hov : ((K : Int) + 1 == 16777216) = true) (hhalf : ((K : Int) + 1) / 2 = 8388608) (hk1 : IntKind.i64.wrap (k + 1) = k + 1) (hFw : 8388608 % 4294967296 = 8388608) (hlaid : ∀ W, Calls Try.prog 60 #[.int .u32 8388608, .int .i64 (k + 1)] W fun e w' => e = .returned (.int .u32 (L : Nat)) ∧ W = w') (hsg : ∀ W, Calls Try.prog 59 #[.bool s, .int .u32 (L : Int)] W fun e w' => e = .returned (.int .u32 (X : Nat)) ∧ W = w') (w : World) : Calls Try.prog 37 #[.bool s, .int .u64 (m : Int), .int .i64 p0, .bool true] w (Rd w X) := by
  have HL := Lib.hid hl
  clear hl
  have HS := Lib.hid hsg
  have HD := Lib.hid hlaid
  clear hsg hlaid
  go_enter Try.func37, Try.ntmps37
  go_wp2_with (first
    | (go_at_call 61; refine (HL.out _).mono ?_; rintro e w' ⟨rfl, rfl⟩))
  go_region_held3 (fun _ => True) (trivial) (fail)
  go_wp2_with (first
    | (go_at_call 60; refine (HD.out _).mono ?_; rintro e w' ⟨rfl, rfl⟩)
    | (go_at_call 59; refine (HS.out _).mono ?_; rintro e w' ⟨rfl, rfl⟩))
  go_ret
  exact ⟨rfl, by first | exact ⟨0, rfl⟩ | exact ⟨_, rfl⟩⟩

set_option maxRecDepth 100000 in
set_option maxHeartbeats 400000 in
theorem rw_B_down_tie_even (s : Bool) (m M B : Nat) (p0 p1 p2 p k : Int) (hmx : max p0 (-2000) = p1) (hmn : min p1 2000 = p2) (h63 : decide ((m : Int) < 9223372036854775808) = true) (hw2 : IntKind.u64.wrap ((m : Int) * 2) = (m : Int) * 2) (hor : bits .or .u64 ((m : Int) * 2) 1 = (M : Int)) (hpw : IntKind.i64.wrap (p2 - 1) = p) (X L K H Y T n n1 : Nat) (hl : ∀ W, Calls Try.prog 61 #[.int .u64 (M : Int)] W fun e w' => e = .returned (.int .i64 (B : Nat)) ∧ W = w') (hM0 : ((M : Int) == 0) = false) (w1 : IntKind.i64.wrap (p + (B : Int)) = p + B) (w2 : IntKind.i64.wrap (p + (B : Int) - 24) = p + B - 24) (hk : max (p + (B : Int) - 24) (-149) = k) (h1 : decide (k ≤ p) = false) (hn : IntKind.i64.wrap (k - p) = (n : Int)) (hn2 : decide ((64 : Int) < (n : Int)) = false) (hn1 : IntKind.i64.wrap ((n : Int) - 1) = (n1 : Int)) (hh : ∀ W, Sem.run Try.prog (Op.shift .shl .u64 1 .i64 (n1 : Int)) W = .ok (.int .u64 (H : Int)) W) (hh2 : IntKind.u64.wrap (2 ^ min n1 64) = (H : Int)) (h64 : decide ((n : Int) < 64) = true) (h64e : ((n : Int) == 64) = false) (hr : (M : Int) / 2 ^ min n 64 = (K : Int)) (hl2 : IntKind.u64.wrap ((K : Int) * 2 ^ min n 64) = (Y : Int)) (hT : IntKind.u64.wrap ((M : Int) - (Y : Int)) = (T : Int)) (hc1 : decide ((H : Int) < (T : Int)) = false) (g1 : ¬ H < T) (hc2 : ((T : Int) == (H : Int)) = true) (hod : bits .and .u64 (K : Int) 1 = 0) (hov : ((K : Int) == 16777216) = false) (hFw : (K : Int) % 4294967296 = (K : Int)) (hlaid : ∀ W, Calls Try.prog 60 #[.int .u32 (K : Int), .int .i64 k] W fun e w' => e = .returned (.int .u32 (L : Nat)) ∧ W = w') (hsg : ∀ W, Calls Try.prog 59 #[.bool s, .int .u32 (L : Int)] W fun e w' => e = .returned (.int .u32 (X : Nat)) ∧ W = w') (w : World) : Calls Try.prog 37 #[.bool s, .int .u64 (m : Int), .int .i64 p0, .bool true] w (Rd w X) := by
  have HL := Lib.hid hl
  clear hl
  have HS := Lib.hid hsg
  have HD := Lib.hid hlaid
  clear hsg hlaid
  go_enter Try.func37, Try.ntmps37
  go_wp2_with (first
    | (go_at_call 61; refine (HL.out _).mono ?_; rintro e w' ⟨rfl, rfl⟩))
  go_region_held3 (fun _ => True) (trivial) (fail)
  go_wp2_with (first
    | (go_at_call 60; refine (HD.out _).mono ?_; rintro e w' ⟨rfl, rfl⟩)
    | (go_at_call 59; refine (HS.out _).mono ?_; rintro e w' ⟨rfl, rfl⟩))
  go_ret
  exact ⟨rfl, by first | exact ⟨0, rfl⟩ | exact ⟨_, rfl⟩⟩

set_option maxRecDepth 100000 in
set_option maxHeartbeats 400000 in
theorem rw_B_down_below (s : Bool) (m M B : Nat) (p0 p1 p2 p k : Int) (hmx : max p0 (-2000) = p1) (hmn : min p1 2000 = p2) (h63 : decide ((m : Int) < 9223372036854775808) = true) (hw2 : IntKind.u64.wrap ((m : Int) * 2) = (m : Int) * 2) (hor : bits .or .u64 ((m : Int) * 2) 1 = (M : Int)) (hpw : IntKind.i64.wrap (p2 - 1) = p) (X L K H Y T n n1 : Nat) (hl : ∀ W, Calls Try.prog 61 #[.int .u64 (M : Int)] W fun e w' => e = .returned (.int .i64 (B : Nat)) ∧ W = w') (hM0 : ((M : Int) == 0) = false) (w1 : IntKind.i64.wrap (p + (B : Int)) = p + B) (w2 : IntKind.i64.wrap (p + (B : Int) - 24) = p + B - 24) (hk : max (p + (B : Int) - 24) (-149) = k) (h1 : decide (k ≤ p) = false) (hn : IntKind.i64.wrap (k - p) = (n : Int)) (hn2 : decide ((64 : Int) < (n : Int)) = false) (hn1 : IntKind.i64.wrap ((n : Int) - 1) = (n1 : Int)) (hh : ∀ W, Sem.run Try.prog (Op.shift .shl .u64 1 .i64 (n1 : Int)) W = .ok (.int .u64 (H : Int)) W) (hh2 : IntKind.u64.wrap (2 ^ min n1 64) = (H : Int)) (h64 : decide ((n : Int) < 64) = true) (h64e : ((n : Int) == 64) = false) (hr : (M : Int) / 2 ^ min n 64 = (K : Int)) (hl2 : IntKind.u64.wrap ((K : Int) * 2 ^ min n 64) = (Y : Int)) (hT : IntKind.u64.wrap ((M : Int) - (Y : Int)) = (T : Int)) (hc1 : decide ((H : Int) < (T : Int)) = false) (g1 : ¬ H < T) (hc2 : ((T : Int) == (H : Int)) = false) (hov : ((K : Int) == 16777216) = false) (hFw : (K : Int) % 4294967296 = (K : Int)) (hlaid : ∀ W, Calls Try.prog 60 #[.int .u32 (K : Int), .int .i64 k] W fun e w' => e = .returned (.int .u32 (L : Nat)) ∧ W = w') (hsg : ∀ W, Calls Try.prog 59 #[.bool s, .int .u32 (L : Int)] W fun e w' => e = .returned (.int .u32 (X : Nat)) ∧ W = w') (w : World) : Calls Try.prog 37 #[.bool s, .int .u64 (m : Int), .int .i64 p0, .bool true] w (Rd w X) := by
  have HL := Lib.hid hl
  clear hl
  have HS := Lib.hid hsg
  have HD := Lib.hid hlaid
  clear hsg hlaid
  go_enter Try.func37, Try.ntmps37
  go_wp2_with (first
    | (go_at_call 61; refine (HL.out _).mono ?_; rintro e w' ⟨rfl, rfl⟩))
  go_region_held3 (fun _ => True) (trivial) (fail)
  go_wp2_with (first
    | (go_at_call 60; refine (HD.out _).mono ?_; rintro e w' ⟨rfl, rfl⟩)
    | (go_at_call 59; refine (HS.out _).mono ?_; rintro e w' ⟨rfl, rfl⟩))
  go_ret
  exact ⟨rfl, by first | exact ⟨0, rfl⟩ | exact ⟨_, rfl⟩⟩

set_option maxRecDepth 100000 in
set_option maxHeartbeats 400000 in
theorem rw_B_down64_above (s : Bool) (m M B : Nat) (p0 p1 p2 p k : Int) (hmx : max p0 (-2000) = p1) (hmn : min p1 2000 = p2) (h63 : decide ((m : Int) < 9223372036854775808) = true) (hw2 : IntKind.u64.wrap ((m : Int) * 2) = (m : Int) * 2) (hor : bits .or .u64 ((m : Int) * 2) 1 = (M : Int)) (hpw : IntKind.i64.wrap (p2 - 1) = p) (X L H n n1 : Nat) (hl : ∀ W, Calls Try.prog 61 #[.int .u64 (M : Int)] W fun e w' => e = .returned (.int .i64 (B : Nat)) ∧ W = w') (hM0 : ((M : Int) == 0) = false) (w1 : IntKind.i64.wrap (p + (B : Int)) = p + B) (w2 : IntKind.i64.wrap (p + (B : Int) - 24) = p + B - 24) (hk : max (p + (B : Int) - 24) (-149) = k) (h1 : decide (k ≤ p) = false) (hn : IntKind.i64.wrap (k - p) = (n : Int)) (hn2 : decide ((64 : Int) < (n : Int)) = false) (hn1 : IntKind.i64.wrap ((n : Int) - 1) = (n1 : Int)) (hh : ∀ W, Sem.run Try.prog (Op.shift .shl .u64 1 .i64 (n1 : Int)) W = .ok (.int .u64 (H : Int)) W) (hh2 : IntKind.u64.wrap (2 ^ min n1 64) = (H : Int)) (h64 : decide ((n : Int) < 64) = false) (h64e : ((n : Int) == 64) = true) (hc1 : decide ((H : Int) < (M : Int)) = true) (g1 : H < M) (hinc : IntKind.u64.wrap (0 + 1) = 0 + 1) (hov : (0 + 1 == 16777216) = false) (hFw : 1 % 4294967296 = 1) (hlaid : ∀ W, Calls Try.prog 60 #[.int .u32 1, .int .i64 k] W fun e w' => e = .returned (.int .u32 (L : Nat)) ∧ W = w') (hsg : ∀ W, Calls Try.prog 59 #[.bool s, .int .u32 (L : Int)] W fun e w' => e = .returned (.int .u32 (X : Nat)) ∧ W = w') (w : World) : Calls Try.prog 37 #[.bool s, .int .u64 (m : Int), .int .i64 p0, .bool true] w (Rd w X) := by
  have HL := Lib.hid hl
  clear hl
  have HS := Lib.hid hsg
  have HD := Lib.hid hlaid
  clear hsg hlaid
  go_enter Try.func37, Try.ntmps37
  go_wp2_with (first
    | (go_at_call 61; refine (HL.out _).mono ?_; rintro e w' ⟨rfl, rfl⟩))
  go_region_held3 (fun _ => True) (trivial) (fail)
  go_wp2_with (first
    | (go_at_call 60; refine (HD.out _).mono ?_; rintro e w' ⟨rfl, rfl⟩)
    | (go_at_call 59; refine (HS.out _).mono ?_; rintro e w' ⟨rfl, rfl⟩))
  go_ret
  exact ⟨rfl, by first | exact ⟨0, rfl⟩ | exact ⟨_, rfl⟩⟩

set_option maxRecDepth 100000 in
set_option maxHeartbeats 400000 in
theorem rw_B_down64_tie_even (s : Bool) (m M B : Nat) (p0 p1 p2 p k : Int) (hmx : max p0 (-2000) = p1) (hmn : min p1 2000 = p2) (h63 : decide ((m : Int) < 9223372036854775808) = true) (hw2 : IntKind.u64.wrap ((m : Int) * 2) = (m : Int) * 2) (hor : bits .or .u64 ((m : Int) * 2) 1 = (M : Int)) (hpw : IntKind.i64.wrap (p2 - 1) = p) (X L H n n1 : Nat) (hl : ∀ W, Calls Try.prog 61 #[.int .u64 (M : Int)] W fun e w' => e = .returned (.int .i64 (B : Nat)) ∧ W = w') (hM0 : ((M : Int) == 0) = false) (w1 : IntKind.i64.wrap (p + (B : Int)) = p + B) (w2 : IntKind.i64.wrap (p + (B : Int) - 24) = p + B - 24) (hk : max (p + (B : Int) - 24) (-149) = k) (h1 : decide (k ≤ p) = false) (hn : IntKind.i64.wrap (k - p) = (n : Int)) (hn2 : decide ((64 : Int) < (n : Int)) = false) (hn1 : IntKind.i64.wrap ((n : Int) - 1) = (n1 : Int)) (hh : ∀ W, Sem.run Try.prog (Op.shift .shl .u64 1 .i64 (n1 : Int)) W = .ok (.int .u64 (H : Int)) W) (hh2 : IntKind.u64.wrap (2 ^ min n1 64) = (H : Int)) (h64 : decide ((n : Int) < 64) = false) (h64e : ((n : Int) == 64) = true) (hc1 : decide ((H : Int) < (M : Int)) = false) (g1 : ¬ H < M) (hc2 : ((M : Int) == (H : Int)) = true) (hod : bits .and .u64 0 1 = 0) (hov : (0 == 16777216) = false) (hFw : 0 % 4294967296 = 0) (hlaid : ∀ W, Calls Try.prog 60 #[.int .u32 0, .int .i64 k] W fun e w' => e = .returned (.int .u32 (L : Nat)) ∧ W = w') (hsg : ∀ W, Calls Try.prog 59 #[.bool s, .int .u32 (L : Int)] W fun e w' => e = .returned (.int .u32 (X : Nat)) ∧ W = w') (w : World) : Calls Try.prog 37 #[.bool s, .int .u64 (m : Int), .int .i64 p0, .bool true] w (Rd w X) := by
  have HL := Lib.hid hl
  clear hl
  have HS := Lib.hid hsg
  have HD := Lib.hid hlaid
  clear hsg hlaid
  go_enter Try.func37, Try.ntmps37
  go_wp2_with (first
    | (go_at_call 61; refine (HL.out _).mono ?_; rintro e w' ⟨rfl, rfl⟩))
  go_region_held3 (fun _ => True) (trivial) (fail)
  go_wp2_with (first
    | (go_at_call 60; refine (HD.out _).mono ?_; rintro e w' ⟨rfl, rfl⟩)
    | (go_at_call 59; refine (HS.out _).mono ?_; rintro e w' ⟨rfl, rfl⟩))
  go_ret
  exact ⟨rfl, by first | exact ⟨0, rfl⟩ | exact ⟨_, rfl⟩⟩

set_option maxRecDepth 100000 in
set_option maxHeartbeats 400000 in
theorem rw_B_down64_below (s : Bool) (m M B : Nat) (p0 p1 p2 p k : Int) (hmx : max p0 (-2000) = p1) (hmn : min p1 2000 = p2) (h63 : decide ((m : Int) < 9223372036854775808) = true) (hw2 : IntKind.u64.wrap ((m : Int) * 2) = (m : Int) * 2) (hor : bits .or .u64 ((m : Int) * 2) 1 = (M : Int)) (hpw : IntKind.i64.wrap (p2 - 1) = p) (X L H n n1 : Nat) (hl : ∀ W, Calls Try.prog 61 #[.int .u64 (M : Int)] W fun e w' => e = .returned (.int .i64 (B : Nat)) ∧ W = w') (hM0 : ((M : Int) == 0) = false) (w1 : IntKind.i64.wrap (p + (B : Int)) = p + B) (w2 : IntKind.i64.wrap (p + (B : Int) - 24) = p + B - 24) (hk : max (p + (B : Int) - 24) (-149) = k) (h1 : decide (k ≤ p) = false) (hn : IntKind.i64.wrap (k - p) = (n : Int)) (hn2 : decide ((64 : Int) < (n : Int)) = false) (hn1 : IntKind.i64.wrap ((n : Int) - 1) = (n1 : Int)) (hh : ∀ W, Sem.run Try.prog (Op.shift .shl .u64 1 .i64 (n1 : Int)) W = .ok (.int .u64 (H : Int)) W) (hh2 : IntKind.u64.wrap (2 ^ min n1 64) = (H : Int)) (h64 : decide ((n : Int) < 64) = false) (h64e : ((n : Int) == 64) = true) (hc1 : decide ((H : Int) < (M : Int)) = false) (g1 : ¬ H < M) (hc2 : ((M : Int) == (H : Int)) = false) (hov : (0 == 16777216) = false) (hFw : 0 % 4294967296 = 0) (hlaid : ∀ W, Calls Try.prog 60 #[.int .u32 0, .int .i64 k] W fun e w' => e = .returned (.int .u32 (L : Nat)) ∧ W = w') (hsg : ∀ W, Calls Try.prog 59 #[.bool s, .int .u32 (L : Int)] W fun e w' => e = .returned (.int .u32 (X : Nat)) ∧ W = w') (w : World) : Calls Try.prog 37 #[.bool s, .int .u64 (m : Int), .int .i64 p0, .bool true] w (Rd w X) := by
  have HL := Lib.hid hl
  clear hl
  have HS := Lib.hid hsg
  have HD := Lib.hid hlaid
  clear hsg hlaid
  go_enter Try.func37, Try.ntmps37
  go_wp2_with (first
    | (go_at_call 61; refine (HL.out _).mono ?_; rintro e w' ⟨rfl, rfl⟩))
  go_region_held3 (fun _ => True) (trivial) (fail)
  go_wp2_with (first
    | (go_at_call 60; refine (HD.out _).mono ?_; rintro e w' ⟨rfl, rfl⟩)
    | (go_at_call 59; refine (HS.out _).mono ?_; rintro e w' ⟨rfl, rfl⟩))
  go_ret
  exact ⟨rfl, by first | exact ⟨0, rfl⟩ | exact ⟨_, rfl⟩⟩

set_option maxRecDepth 100000 in
set_option maxHeartbeats 400000 in
theorem rw_C_far (s : Bool) (m M B : Nat) (p0 p1 p2 p k : Int) (hmx : max p0 (-2000) = p1) (hmn : min p1 2000 = p2) (h63 : decide ((m : Int) < 9223372036854775808) = false) (hM : m = M) (hp : p2 = p) (X n : Nat) (hl : ∀ W, Calls Try.prog 61 #[.int .u64 (M : Int)] W fun e w' => e = .returned (.int .i64 (B : Nat)) ∧ W = w') (hM0 : ((M : Int) == 0) = false) (w1 : IntKind.i64.wrap (p + (B : Int)) = p + B) (w2 : IntKind.i64.wrap (p + (B : Int) - 24) = p + B - 24) (hk : max (p + (B : Int) - 24) (-149) = k) (h1 : decide (k ≤ p) = false) (hn : IntKind.i64.wrap (k - p) = (n : Int)) (hn2 : decide ((64 : Int) < (n : Int)) = true) (hsg : ∀ W, Calls Try.prog 59 #[.bool s, .int .u32 0] W fun e w' => e = .returned (.int .u32 (X : Nat)) ∧ W = w') (w : World) : Calls Try.prog 37 #[.bool s, .int .u64 (m : Int), .int .i64 p0, .bool true] w (Rd w X) := by
  subst hM hp
  have HL := Lib.hid hl
  clear hl
  have HS := Lib.hid hsg
  clear hsg
  go_enter Try.func37, Try.ntmps37
  go_wp2_with (first
    | (go_at_call 61; refine (HL.out _).mono ?_; rintro e w' ⟨rfl, rfl⟩)
    | (go_at_call 59; refine (HS.out _).mono ?_; rintro e w' ⟨rfl, rfl⟩))
  go_ret
  exact ⟨rfl, by first | exact ⟨0, rfl⟩ | exact ⟨_, rfl⟩⟩

set_option maxRecDepth 100000 in
set_option maxHeartbeats 400000 in
theorem rw_C_down_above (s : Bool) (m M B : Nat) (p0 p1 p2 p k : Int) (hmx : max p0 (-2000) = p1) (hmn : min p1 2000 = p2) (h63 : decide ((m : Int) < 9223372036854775808) = false) (hM : m = M) (hp : p2 = p) (X L K H Y T n n1 : Nat) (hl : ∀ W, Calls Try.prog 61 #[.int .u64 (M : Int)] W fun e w' => e = .returned (.int .i64 (B : Nat)) ∧ W = w') (hM0 : ((M : Int) == 0) = false) (w1 : IntKind.i64.wrap (p + (B : Int)) = p + B) (w2 : IntKind.i64.wrap (p + (B : Int) - 24) = p + B - 24) (hk : max (p + (B : Int) - 24) (-149) = k) (h1 : decide (k ≤ p) = false) (hn : IntKind.i64.wrap (k - p) = (n : Int)) (hn2 : decide ((64 : Int) < (n : Int)) = false) (hn1 : IntKind.i64.wrap ((n : Int) - 1) = (n1 : Int)) (hh : ∀ W, Sem.run Try.prog (Op.shift .shl .u64 1 .i64 (n1 : Int)) W = .ok (.int .u64 (H : Int)) W) (hh2 : IntKind.u64.wrap (2 ^ min n1 64) = (H : Int)) (h64 : decide ((n : Int) < 64) = true) (h64e : ((n : Int) == 64) = false) (hr : (M : Int) / 2 ^ min n 64 = (K : Int)) (hl2 : IntKind.u64.wrap ((K : Int) * 2 ^ min n 64) = (Y : Int)) (hT : IntKind.u64.wrap ((M : Int) - (Y : Int)) = (T : Int)) (hc1 : decide ((H : Int) < (T : Int)) = true) (g1 : H < T) (hinc : IntKind.u64.wrap ((K : Int) + 1) = (K : Int) + 1) (hov : ((K : Int) + 1 == 16777216) = false) (hFw : ((K : Int) + 1) % 4294967296 = ((K : Int) + 1)) (hlaid : ∀ W, Calls Try.prog 60 #[.int .u32 ((K : Int) + 1), .int .i64 k] W fun e w' => e = .returned (.int .u32 (L : Nat)) ∧ W = w') (hsg : ∀ W, Calls Try.prog 59 #[.bool s, .int .u32 (L : Int)] W fun e w' => e = .returned (.int .u32 (X : Nat)) ∧ W = w') (w : World) : Calls Try.prog 37 #[.bool s, .int .u64 (m : Int), .int .i64 p0, .bool true] w (Rd w X) := by
  subst hM hp
  have HL := Lib.hid hl
  clear hl
  have HS := Lib.hid hsg
  have HD := Lib.hid hlaid
  clear hsg hlaid
  go_enter Try.func37, Try.ntmps37
  go_wp2_with (first
    | (go_at_call 61; refine (HL.out _).mono ?_; rintro e w' ⟨rfl, rfl⟩))
  go_region_held3 (fun _ => True) (trivial) (fail)
  go_wp2_with (first
    | (go_at_call 60; refine (HD.out _).mono ?_; rintro e w' ⟨rfl, rfl⟩)
    | (go_at_call 59; refine (HS.out _).mono ?_; rintro e w' ⟨rfl, rfl⟩))
  go_ret
  exact ⟨rfl, by first | exact ⟨0, rfl⟩ | exact ⟨_, rfl⟩⟩

set_option maxRecDepth 100000 in
set_option maxHeartbeats 400000 in
theorem rw_C_down_tie (s : Bool) (m M B : Nat) (p0 p1 p2 p k : Int) (hmx : max p0 (-2000) = p1) (hmn : min p1 2000 = p2) (h63 : decide ((m : Int) < 9223372036854775808) = false) (hM : m = M) (hp : p2 = p) (X L K H Y T n n1 : Nat) (hl : ∀ W, Calls Try.prog 61 #[.int .u64 (M : Int)] W fun e w' => e = .returned (.int .i64 (B : Nat)) ∧ W = w') (hM0 : ((M : Int) == 0) = false) (w1 : IntKind.i64.wrap (p + (B : Int)) = p + B) (w2 : IntKind.i64.wrap (p + (B : Int) - 24) = p + B - 24) (hk : max (p + (B : Int) - 24) (-149) = k) (h1 : decide (k ≤ p) = false) (hn : IntKind.i64.wrap (k - p) = (n : Int)) (hn2 : decide ((64 : Int) < (n : Int)) = false) (hn1 : IntKind.i64.wrap ((n : Int) - 1) = (n1 : Int)) (hh : ∀ W, Sem.run Try.prog (Op.shift .shl .u64 1 .i64 (n1 : Int)) W = .ok (.int .u64 (H : Int)) W) (hh2 : IntKind.u64.wrap (2 ^ min n1 64) = (H : Int)) (h64 : decide ((n : Int) < 64) = true) (h64e : ((n : Int) == 64) = false) (hr : (M : Int) / 2 ^ min n 64 = (K : Int)) (hl2 : IntKind.u64.wrap ((K : Int) * 2 ^ min n 64) = (Y : Int)) (hT : IntKind.u64.wrap ((M : Int) - (Y : Int)) = (T : Int)) (hc1 : decide ((H : Int) < (T : Int)) = false) (g1 : ¬ H < T) (hc2 : ((T : Int) == (H : Int)) = true) (hinc : IntKind.u64.wrap ((K : Int) + 1) = (K : Int) + 1) (hov : ((K : Int) + 1 == 16777216) = false) (hFw : ((K : Int) + 1) % 4294967296 = ((K : Int) + 1)) (hlaid : ∀ W, Calls Try.prog 60 #[.int .u32 ((K : Int) + 1), .int .i64 k] W fun e w' => e = .returned (.int .u32 (L : Nat)) ∧ W = w') (hsg : ∀ W, Calls Try.prog 59 #[.bool s, .int .u32 (L : Int)] W fun e w' => e = .returned (.int .u32 (X : Nat)) ∧ W = w') (w : World) : Calls Try.prog 37 #[.bool s, .int .u64 (m : Int), .int .i64 p0, .bool true] w (Rd w X) := by
  subst hM hp
  have HL := Lib.hid hl
  clear hl
  have HS := Lib.hid hsg
  have HD := Lib.hid hlaid
  clear hsg hlaid
  go_enter Try.func37, Try.ntmps37
  go_wp2_with (first
    | (go_at_call 61; refine (HL.out _).mono ?_; rintro e w' ⟨rfl, rfl⟩))
  go_region_held3 (fun _ => True) (trivial) (fail)
  go_wp2_with (first
    | (go_at_call 60; refine (HD.out _).mono ?_; rintro e w' ⟨rfl, rfl⟩)
    | (go_at_call 59; refine (HS.out _).mono ?_; rintro e w' ⟨rfl, rfl⟩))
  go_ret
  exact ⟨rfl, by first | exact ⟨0, rfl⟩ | exact ⟨_, rfl⟩⟩

set_option maxRecDepth 100000 in
set_option maxHeartbeats 400000 in
theorem rw_C_down_above_full (s : Bool) (m M B : Nat) (p0 p1 p2 p k : Int) (hmx : max p0 (-2000) = p1) (hmn : min p1 2000 = p2) (h63 : decide ((m : Int) < 9223372036854775808) = false) (hM : m = M) (hp : p2 = p) (X L K H Y T n n1 : Nat) (hl : ∀ W, Calls Try.prog 61 #[.int .u64 (M : Int)] W fun e w' => e = .returned (.int .i64 (B : Nat)) ∧ W = w') (hM0 : ((M : Int) == 0) = false) (w1 : IntKind.i64.wrap (p + (B : Int)) = p + B) (w2 : IntKind.i64.wrap (p + (B : Int) - 24) = p + B - 24) (hk : max (p + (B : Int) - 24) (-149) = k) (h1 : decide (k ≤ p) = false) (hn : IntKind.i64.wrap (k - p) = (n : Int)) (hn2 : decide ((64 : Int) < (n : Int)) = false) (hn1 : IntKind.i64.wrap ((n : Int) - 1) = (n1 : Int)) (hh : ∀ W, Sem.run Try.prog (Op.shift .shl .u64 1 .i64 (n1 : Int)) W = .ok (.int .u64 (H : Int)) W) (hh2 : IntKind.u64.wrap (2 ^ min n1 64) = (H : Int)) (h64 : decide ((n : Int) < 64) = true) (h64e : ((n : Int) == 64) = false) (hr : (M : Int) / 2 ^ min n 64 = (K : Int)) (hl2 : IntKind.u64.wrap ((K : Int) * 2 ^ min n 64) = (Y : Int)) (hT : IntKind.u64.wrap ((M : Int) - (Y : Int)) = (T : Int)) (hc1 : decide ((H : Int) < (T : Int)) = true) (g1 : H < T) (hinc : IntKind.u64.wrap ((K : Int) + 1) = (K : Int) + 1) (hov : ((K : Int) + 1 == 16777216) = true) (hhalf : ((K : Int) + 1) / 2 = 8388608) (hk1 : IntKind.i64.wrap (k + 1) = k + 1) (hFw : 8388608 % 4294967296 = 8388608) (hlaid : ∀ W, Calls Try.prog 60 #[.int .u32 8388608, .int .i64 (k + 1)] W fun e w' => e = .returned (.int .u32 (L : Nat)) ∧ W = w') (hsg : ∀ W, Calls Try.prog 59 #[.bool s, .int .u32 (L : Int)] W fun e w' => e = .returned (.int .u32 (X : Nat)) ∧ W = w') (w : World) : Calls Try.prog 37 #[.bool s, .int .u64 (m : Int), .int .i64 p0, .bool true] w (Rd w X) := by
  subst hM hp
  have HL := Lib.hid hl
  clear hl
  have HS := Lib.hid hsg
  have HD := Lib.hid hlaid
  clear hsg hlaid
  go_enter Try.func37, Try.ntmps37
  go_wp2_with (first
    | (go_at_call 61; refine (HL.out _).mono ?_; rintro e w' ⟨rfl, rfl⟩))
  go_region_held3 (fun _ => True) (trivial) (fail)
  go_wp2_with (first
    | (go_at_call 60; refine (HD.out _).mono ?_; rintro e w' ⟨rfl, rfl⟩)
    | (go_at_call 59; refine (HS.out _).mono ?_; rintro e w' ⟨rfl, rfl⟩))
  go_ret
  exact ⟨rfl, by first | exact ⟨0, rfl⟩ | exact ⟨_, rfl⟩⟩

set_option maxRecDepth 100000 in
set_option maxHeartbeats 400000 in
theorem rw_C_down_tie_full (s : Bool) (m M B : Nat) (p0 p1 p2 p k : Int) (hmx : max p0 (-2000) = p1) (hmn : min p1 2000 = p2) (h63 : decide ((m : Int) < 9223372036854775808) = false) (hM : m = M) (hp : p2 = p) (X L K H Y T n n1 : Nat) (hl : ∀ W, Calls Try.prog 61 #[.int .u64 (M : Int)] W fun e w' => e = .returned (.int .i64 (B : Nat)) ∧ W = w') (hM0 : ((M : Int) == 0) = false) (w1 : IntKind.i64.wrap (p + (B : Int)) = p + B) (w2 : IntKind.i64.wrap (p + (B : Int) - 24) = p + B - 24) (hk : max (p + (B : Int) - 24) (-149) = k) (h1 : decide (k ≤ p) = false) (hn : IntKind.i64.wrap (k - p) = (n : Int)) (hn2 : decide ((64 : Int) < (n : Int)) = false) (hn1 : IntKind.i64.wrap ((n : Int) - 1) = (n1 : Int)) (hh : ∀ W, Sem.run Try.prog (Op.shift .shl .u64 1 .i64 (n1 : Int)) W = .ok (.int .u64 (H : Int)) W) (hh2 : IntKind.u64.wrap (2 ^ min n1 64) = (H : Int)) (h64 : decide ((n : Int) < 64) = true) (h64e : ((n : Int) == 64) = false) (hr : (M : Int) / 2 ^ min n 64 = (K : Int)) (hl2 : IntKind.u64.wrap ((K : Int) * 2 ^ min n 64) = (Y : Int)) (hT : IntKind.u64.wrap ((M : Int) - (Y : Int)) = (T : Int)) (hc1 : decide ((H : Int) < (T : Int)) = false) (g1 : ¬ H < T) (hc2 : ((T : Int) == (H : Int)) = true) (hinc : IntKind.u64.wrap ((K : Int) + 1) = (K : Int) + 1) (hov : ((K : Int) + 1 == 16777216) = true) (hhalf : ((K : Int) + 1) / 2 = 8388608) (hk1 : IntKind.i64.wrap (k + 1) = k + 1) (hFw : 8388608 % 4294967296 = 8388608) (hlaid : ∀ W, Calls Try.prog 60 #[.int .u32 8388608, .int .i64 (k + 1)] W fun e w' => e = .returned (.int .u32 (L : Nat)) ∧ W = w') (hsg : ∀ W, Calls Try.prog 59 #[.bool s, .int .u32 (L : Int)] W fun e w' => e = .returned (.int .u32 (X : Nat)) ∧ W = w') (w : World) : Calls Try.prog 37 #[.bool s, .int .u64 (m : Int), .int .i64 p0, .bool true] w (Rd w X) := by
  subst hM hp
  have HL := Lib.hid hl
  clear hl
  have HS := Lib.hid hsg
  have HD := Lib.hid hlaid
  clear hsg hlaid
  go_enter Try.func37, Try.ntmps37
  go_wp2_with (first
    | (go_at_call 61; refine (HL.out _).mono ?_; rintro e w' ⟨rfl, rfl⟩))
  go_region_held3 (fun _ => True) (trivial) (fail)
  go_wp2_with (first
    | (go_at_call 60; refine (HD.out _).mono ?_; rintro e w' ⟨rfl, rfl⟩)
    | (go_at_call 59; refine (HS.out _).mono ?_; rintro e w' ⟨rfl, rfl⟩))
  go_ret
  exact ⟨rfl, by first | exact ⟨0, rfl⟩ | exact ⟨_, rfl⟩⟩

set_option maxRecDepth 100000 in
set_option maxHeartbeats 400000 in
theorem rw_C_down_below (s : Bool) (m M B : Nat) (p0 p1 p2 p k : Int) (hmx : max p0 (-2000) = p1) (hmn : min p1 2000 = p2) (h63 : decide ((m : Int) < 9223372036854775808) = false) (hM : m = M) (hp : p2 = p) (X L K H Y T n n1 : Nat) (hl : ∀ W, Calls Try.prog 61 #[.int .u64 (M : Int)] W fun e w' => e = .returned (.int .i64 (B : Nat)) ∧ W = w') (hM0 : ((M : Int) == 0) = false) (w1 : IntKind.i64.wrap (p + (B : Int)) = p + B) (w2 : IntKind.i64.wrap (p + (B : Int) - 24) = p + B - 24) (hk : max (p + (B : Int) - 24) (-149) = k) (h1 : decide (k ≤ p) = false) (hn : IntKind.i64.wrap (k - p) = (n : Int)) (hn2 : decide ((64 : Int) < (n : Int)) = false) (hn1 : IntKind.i64.wrap ((n : Int) - 1) = (n1 : Int)) (hh : ∀ W, Sem.run Try.prog (Op.shift .shl .u64 1 .i64 (n1 : Int)) W = .ok (.int .u64 (H : Int)) W) (hh2 : IntKind.u64.wrap (2 ^ min n1 64) = (H : Int)) (h64 : decide ((n : Int) < 64) = true) (h64e : ((n : Int) == 64) = false) (hr : (M : Int) / 2 ^ min n 64 = (K : Int)) (hl2 : IntKind.u64.wrap ((K : Int) * 2 ^ min n 64) = (Y : Int)) (hT : IntKind.u64.wrap ((M : Int) - (Y : Int)) = (T : Int)) (hc1 : decide ((H : Int) < (T : Int)) = false) (g1 : ¬ H < T) (hc2 : ((T : Int) == (H : Int)) = false) (hov : ((K : Int) == 16777216) = false) (hFw : (K : Int) % 4294967296 = (K : Int)) (hlaid : ∀ W, Calls Try.prog 60 #[.int .u32 (K : Int), .int .i64 k] W fun e w' => e = .returned (.int .u32 (L : Nat)) ∧ W = w') (hsg : ∀ W, Calls Try.prog 59 #[.bool s, .int .u32 (L : Int)] W fun e w' => e = .returned (.int .u32 (X : Nat)) ∧ W = w') (w : World) : Calls Try.prog 37 #[.bool s, .int .u64 (m : Int), .int .i64 p0, .bool true] w (Rd w X) := by
  subst hM hp
  have HL := Lib.hid hl
  clear hl
  have HS := Lib.hid hsg
  have HD := Lib.hid hlaid
  clear hsg hlaid
  go_enter Try.func37, Try.ntmps37
  go_wp2_with (first
    | (go_at_call 61; refine (HL.out _).mono ?_; rintro e w' ⟨rfl, rfl⟩))
  go_region_held3 (fun _ => True) (trivial) (fail)
  go_wp2_with (first
    | (go_at_call 60; refine (HD.out _).mono ?_; rintro e w' ⟨rfl, rfl⟩)
    | (go_at_call 59; refine (HS.out _).mono ?_; rintro e w' ⟨rfl, rfl⟩))
  go_ret
  exact ⟨rfl, by first | exact ⟨0, rfl⟩ | exact ⟨_, rfl⟩⟩

set_option maxRecDepth 100000 in
set_option maxHeartbeats 400000 in
theorem rw_C_down64_above (s : Bool) (m M B : Nat) (p0 p1 p2 p k : Int) (hmx : max p0 (-2000) = p1) (hmn : min p1 2000 = p2) (h63 : decide ((m : Int) < 9223372036854775808) = false) (hM : m = M) (hp : p2 = p) (X L H n n1 : Nat) (hl : ∀ W, Calls Try.prog 61 #[.int .u64 (M : Int)] W fun e w' => e = .returned (.int .i64 (B : Nat)) ∧ W = w') (hM0 : ((M : Int) == 0) = false) (w1 : IntKind.i64.wrap (p + (B : Int)) = p + B) (w2 : IntKind.i64.wrap (p + (B : Int) - 24) = p + B - 24) (hk : max (p + (B : Int) - 24) (-149) = k) (h1 : decide (k ≤ p) = false) (hn : IntKind.i64.wrap (k - p) = (n : Int)) (hn2 : decide ((64 : Int) < (n : Int)) = false) (hn1 : IntKind.i64.wrap ((n : Int) - 1) = (n1 : Int)) (hh : ∀ W, Sem.run Try.prog (Op.shift .shl .u64 1 .i64 (n1 : Int)) W = .ok (.int .u64 (H : Int)) W) (hh2 : IntKind.u64.wrap (2 ^ min n1 64) = (H : Int)) (h64 : decide ((n : Int) < 64) = false) (h64e : ((n : Int) == 64) = true) (hc1 : decide ((H : Int) < (M : Int)) = true) (g1 : H < M) (hinc : IntKind.u64.wrap (0 + 1) = 0 + 1) (hov : (0 + 1 == 16777216) = false) (hFw : 1 % 4294967296 = 1) (hlaid : ∀ W, Calls Try.prog 60 #[.int .u32 1, .int .i64 k] W fun e w' => e = .returned (.int .u32 (L : Nat)) ∧ W = w') (hsg : ∀ W, Calls Try.prog 59 #[.bool s, .int .u32 (L : Int)] W fun e w' => e = .returned (.int .u32 (X : Nat)) ∧ W = w') (w : World) : Calls Try.prog 37 #[.bool s, .int .u64 (m : Int), .int .i64 p0, .bool true] w (Rd w X) := by
  subst hM hp
  have HL := Lib.hid hl
  clear hl
  have HS := Lib.hid hsg
  have HD := Lib.hid hlaid
  clear hsg hlaid
  go_enter Try.func37, Try.ntmps37
  go_wp2_with (first
    | (go_at_call 61; refine (HL.out _).mono ?_; rintro e w' ⟨rfl, rfl⟩))
  go_region_held3 (fun _ => True) (trivial) (fail)
  go_wp2_with (first
    | (go_at_call 60; refine (HD.out _).mono ?_; rintro e w' ⟨rfl, rfl⟩)
    | (go_at_call 59; refine (HS.out _).mono ?_; rintro e w' ⟨rfl, rfl⟩))
  go_ret
  exact ⟨rfl, by first | exact ⟨0, rfl⟩ | exact ⟨_, rfl⟩⟩

set_option maxRecDepth 100000 in
set_option maxHeartbeats 400000 in
theorem rw_C_down64_tie (s : Bool) (m M B : Nat) (p0 p1 p2 p k : Int) (hmx : max p0 (-2000) = p1) (hmn : min p1 2000 = p2) (h63 : decide ((m : Int) < 9223372036854775808) = false) (hM : m = M) (hp : p2 = p) (X L H n n1 : Nat) (hl : ∀ W, Calls Try.prog 61 #[.int .u64 (M : Int)] W fun e w' => e = .returned (.int .i64 (B : Nat)) ∧ W = w') (hM0 : ((M : Int) == 0) = false) (w1 : IntKind.i64.wrap (p + (B : Int)) = p + B) (w2 : IntKind.i64.wrap (p + (B : Int) - 24) = p + B - 24) (hk : max (p + (B : Int) - 24) (-149) = k) (h1 : decide (k ≤ p) = false) (hn : IntKind.i64.wrap (k - p) = (n : Int)) (hn2 : decide ((64 : Int) < (n : Int)) = false) (hn1 : IntKind.i64.wrap ((n : Int) - 1) = (n1 : Int)) (hh : ∀ W, Sem.run Try.prog (Op.shift .shl .u64 1 .i64 (n1 : Int)) W = .ok (.int .u64 (H : Int)) W) (hh2 : IntKind.u64.wrap (2 ^ min n1 64) = (H : Int)) (h64 : decide ((n : Int) < 64) = false) (h64e : ((n : Int) == 64) = true) (hc1 : decide ((H : Int) < (M : Int)) = false) (g1 : ¬ H < M) (hc2 : ((M : Int) == (H : Int)) = true) (hinc : IntKind.u64.wrap (0 + 1) = 0 + 1) (hov : (0 + 1 == 16777216) = false) (hFw : 1 % 4294967296 = 1) (hlaid : ∀ W, Calls Try.prog 60 #[.int .u32 1, .int .i64 k] W fun e w' => e = .returned (.int .u32 (L : Nat)) ∧ W = w') (hsg : ∀ W, Calls Try.prog 59 #[.bool s, .int .u32 (L : Int)] W fun e w' => e = .returned (.int .u32 (X : Nat)) ∧ W = w') (w : World) : Calls Try.prog 37 #[.bool s, .int .u64 (m : Int), .int .i64 p0, .bool true] w (Rd w X) := by
  subst hM hp
  have HL := Lib.hid hl
  clear hl
  have HS := Lib.hid hsg
  have HD := Lib.hid hlaid
  clear hsg hlaid
  go_enter Try.func37, Try.ntmps37
  go_wp2_with (first
    | (go_at_call 61; refine (HL.out _).mono ?_; rintro e w' ⟨rfl, rfl⟩))
  go_region_held3 (fun _ => True) (trivial) (fail)
  go_wp2_with (first
    | (go_at_call 60; refine (HD.out _).mono ?_; rintro e w' ⟨rfl, rfl⟩)
    | (go_at_call 59; refine (HS.out _).mono ?_; rintro e w' ⟨rfl, rfl⟩))
  go_ret
  exact ⟨rfl, by first | exact ⟨0, rfl⟩ | exact ⟨_, rfl⟩⟩

set_option maxRecDepth 100000 in
set_option maxHeartbeats 400000 in
theorem rw_C_down64_below (s : Bool) (m M B : Nat) (p0 p1 p2 p k : Int) (hmx : max p0 (-2000) = p1) (hmn : min p1 2000 = p2) (h63 : decide ((m : Int) < 9223372036854775808) = false) (hM : m = M) (hp : p2 = p) (X L H n n1 : Nat) (hl : ∀ W, Calls Try.prog 61 #[.int .u64 (M : Int)] W fun e w' => e = .returned (.int .i64 (B : Nat)) ∧ W = w') (hM0 : ((M : Int) == 0) = false) (w1 : IntKind.i64.wrap (p + (B : Int)) = p + B) (w2 : IntKind.i64.wrap (p + (B : Int) - 24) = p + B - 24) (hk : max (p + (B : Int) - 24) (-149) = k) (h1 : decide (k ≤ p) = false) (hn : IntKind.i64.wrap (k - p) = (n : Int)) (hn2 : decide ((64 : Int) < (n : Int)) = false) (hn1 : IntKind.i64.wrap ((n : Int) - 1) = (n1 : Int)) (hh : ∀ W, Sem.run Try.prog (Op.shift .shl .u64 1 .i64 (n1 : Int)) W = .ok (.int .u64 (H : Int)) W) (hh2 : IntKind.u64.wrap (2 ^ min n1 64) = (H : Int)) (h64 : decide ((n : Int) < 64) = false) (h64e : ((n : Int) == 64) = true) (hc1 : decide ((H : Int) < (M : Int)) = false) (g1 : ¬ H < M) (hc2 : ((M : Int) == (H : Int)) = false) (hov : (0 == 16777216) = false) (hFw : 0 % 4294967296 = 0) (hlaid : ∀ W, Calls Try.prog 60 #[.int .u32 0, .int .i64 k] W fun e w' => e = .returned (.int .u32 (L : Nat)) ∧ W = w') (hsg : ∀ W, Calls Try.prog 59 #[.bool s, .int .u32 (L : Int)] W fun e w' => e = .returned (.int .u32 (X : Nat)) ∧ W = w') (w : World) : Calls Try.prog 37 #[.bool s, .int .u64 (m : Int), .int .i64 p0, .bool true] w (Rd w X) := by
  subst hM hp
  have HL := Lib.hid hl
  clear hl
  have HS := Lib.hid hsg
  have HD := Lib.hid hlaid
  clear hsg hlaid
  go_enter Try.func37, Try.ntmps37
  go_wp2_with (first
    | (go_at_call 61; refine (HL.out _).mono ?_; rintro e w' ⟨rfl, rfl⟩))
  go_region_held3 (fun _ => True) (trivial) (fail)
  go_wp2_with (first
    | (go_at_call 60; refine (HD.out _).mono ?_; rintro e w' ⟨rfl, rfl⟩)
    | (go_at_call 59; refine (HS.out _).mono ?_; rintro e w' ⟨rfl, rfl⟩))
  go_ret
  exact ⟨rfl, by first | exact ⟨0, rfl⟩ | exact ⟨_, rfl⟩⟩
end Go.Proofs.Ytdihbpfoalmlcaa
