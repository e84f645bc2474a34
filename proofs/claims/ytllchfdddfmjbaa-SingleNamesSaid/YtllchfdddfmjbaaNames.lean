/- The program's Round at the words that SingleNames names (printed by a program of ours). -/
import Derived.Test.YtllchfdddfmjbaaLen
import Derived.Test.YtllchfdddfmjbaaJoin
import Derived.Test.YtllchfdddfmjbaaNarrow
import Derived.Test.YtllchfdddfmjbaaRootB
import Derived.Test.YtllchfdddfmjbaaWhole
namespace Go.Proofs.Ytllchfdddfmjbaa
open Go.RowKit Ieee
set_option linter.unusedVariables false

set_option maxRecDepth 100000 in
set_option maxHeartbeats 2000000 in
theorem rd_1 (w : World) : Calls Try.prog 19 #[.bool false, .int .u64 16777217, .int .i64 (0), .bool false] w fun e w' => e = .returned (.int .u32 1266679808) ∧ ∃ k, w' = w.drewN k := by
  have m1 : max (0 : Int) (-2000) = 0 := by decide
  have m2 : min (0 : Int) 2000 = 0 := by decide
  have m3 : max (1 : Int) (-149) = 1 := by decide
  have l0 := fun W => Len64_raw 16777217 (by decide) W
  rw [show bsize 16777217 = 25 from by decide +kernel] at l0
  have L0 := Lib.hid l0
  clear l0
  have d0 := fun W => laid_high 8388608 151 (1) (by decide) (by decide) (by decide) (by decide) W
  rw [show 151 * 8388608 + 8388608 % 8388608 = 1266679808 from by decide] at d0
  have D0 := Lib.hid d0
  clear d0
  have s0 := fun W => signed_any false 1266679808 (by decide) W
  rw [show sgB false + 1266679808 = 1266679808 from by decide] at s0
  have S0 := Lib.hid s0
  clear s0
  have o2 : bits .and .u64 8388608 1 = 0 := by decide
  have w9 : IntKind.i64.wrap 0 = 0 := by decide
  have hsh : ∀ W, Sem.run Try.prog (Op.shift .shl .u64 1 .i64 0) W = .ok (.int .u64 1) W := fun W => rfl
  go_enter Try.func19, Try.ntmps19
  go_wp2_with (go_at_call 44; refine (L0.out _).mono ?_; rintro e w' ⟨rfl, rfl⟩)
  go_region_held3 (fun _ => True) (trivial) (fail)
  go_wp2_with (first
    | (go_at_call 45; refine (D0.out _).mono ?_; rintro e w' ⟨rfl, rfl⟩)
    | (go_at_call 43; refine (S0.out _).mono ?_; rintro e w' ⟨rfl, rfl⟩))
  go_ret
  exact ⟨rfl, _, rfl⟩

set_option maxRecDepth 100000 in
set_option maxHeartbeats 2000000 in
theorem rd_2 (w : World) : Calls Try.prog 19 #[.bool false, .int .u64 16777217, .int .i64 (0), .bool true] w fun e w' => e = .returned (.int .u32 1266679809) ∧ ∃ k, w' = w.drewN k := by
  have m1 : max (0 : Int) (-2000) = 0 := by decide
  have m2 : min (0 : Int) 2000 = 0 := by decide
  have m3 : max (1 : Int) (-149) = 1 := by decide
  have l0 := fun W => Len64_raw 33554435 (by decide) W
  rw [show bsize 33554435 = 26 from by decide +kernel] at l0
  have L0 := Lib.hid l0
  clear l0
  have d0 := fun W => laid_high 8388609 151 (1) (by decide) (by decide) (by decide) (by decide) W
  rw [show 151 * 8388608 + 8388609 % 8388608 = 1266679809 from by decide] at d0
  have D0 := Lib.hid d0
  clear d0
  have s0 := fun W => signed_any false 1266679809 (by decide) W
  rw [show sgB false + 1266679809 = 1266679809 from by decide] at s0
  have S0 := Lib.hid s0
  clear s0
  have o1 : bits .or .u64 33554434 1 = 33554435 := by decide
  have o2 : bits .and .u64 8388608 1 = 0 := by decide
  have w9 : IntKind.i64.wrap 1 = 1 := by decide
  have hsh : ∀ W, Sem.run Try.prog (Op.shift .shl .u64 1 .i64 1) W = .ok (.int .u64 2) W := fun W => rfl
  go_enter Try.func19, Try.ntmps19
  go_wp2_with (go_at_call 44; refine (L0.out _).mono ?_; rintro e w' ⟨rfl, rfl⟩)
  go_region_held3 (fun _ => True) (trivial) (fail)
  go_wp2_with (first
    | (go_at_call 45; refine (D0.out _).mono ?_; rintro e w' ⟨rfl, rfl⟩)
    | (go_at_call 43; refine (S0.out _).mono ?_; rintro e w' ⟨rfl, rfl⟩))
  go_ret
  exact ⟨rfl, _, rfl⟩

set_option maxRecDepth 100000 in
set_option maxHeartbeats 2000000 in
theorem rd_3 (w : World) : Calls Try.prog 19 #[.bool true, .int .u64 1, .int .i64 (-150), .bool false] w fun e w' => e = .returned (.int .u32 2147483648) ∧ ∃ k, w' = w.drewN k := by
  have m1 : max (-150 : Int) (-2000) = -150 := by decide
  have m2 : min (-150 : Int) 2000 = -150 := by decide
  have m3 : max (-173 : Int) (-149) = -149 := by decide
  have l0 := fun W => Len64_raw 1 (by decide) W
  rw [show bsize 1 = 1 from by decide +kernel] at l0
  have L0 := Lib.hid l0
  clear l0
  have d0 := fun W => laid_low 0 (-149) (by decide) W
  have D0 := Lib.hid d0
  clear d0
  have s0 := fun W => signed_any true 0 (by decide) W
  rw [show sgB true + 0 = 2147483648 from by decide] at s0
  have S0 := Lib.hid s0
  clear s0
  have o2 : bits .and .u64 0 1 = 0 := by decide
  have w9 : IntKind.i64.wrap 0 = 0 := by decide
  have hsh : ∀ W, Sem.run Try.prog (Op.shift .shl .u64 1 .i64 0) W = .ok (.int .u64 1) W := fun W => rfl
  go_enter Try.func19, Try.ntmps19
  go_wp2_with (go_at_call 44; refine (L0.out _).mono ?_; rintro e w' ⟨rfl, rfl⟩)
  go_region_held3 (fun _ => True) (trivial) (fail)
  go_wp2_with (first
    | (go_at_call 45; refine (D0.out _).mono ?_; rintro e w' ⟨rfl, rfl⟩)
    | (go_at_call 43; refine (S0.out _).mono ?_; rintro e w' ⟨rfl, rfl⟩))
  go_ret
  exact ⟨rfl, _, rfl⟩

set_option maxRecDepth 100000 in
set_option maxHeartbeats 2000000 in
theorem rd_4 (w : World) : Calls Try.prog 19 #[.bool true, .int .u64 1, .int .i64 (-150), .bool true] w fun e w' => e = .returned (.int .u32 2147483649) ∧ ∃ k, w' = w.drewN k := by
  have m1 : max (-150 : Int) (-2000) = -150 := by decide
  have m2 : min (-150 : Int) 2000 = -150 := by decide
  have m3 : max (-173 : Int) (-149) = -149 := by decide
  have l0 := fun W => Len64_raw 3 (by decide) W
  rw [show bsize 3 = 2 from by decide +kernel] at l0
  have L0 := Lib.hid l0
  clear l0
  have d0 := fun W => laid_low 1 (-149) (by decide) W
  have D0 := Lib.hid d0
  clear d0
  have s0 := fun W => signed_any true 1 (by decide) W
  rw [show sgB true + 1 = 2147483649 from by decide] at s0
  have S0 := Lib.hid s0
  clear s0
  have o1 : bits .or .u64 2 1 = 3 := by decide
  have o2 : bits .and .u64 0 1 = 0 := by decide
  have w9 : IntKind.i64.wrap 1 = 1 := by decide
  have hsh : ∀ W, Sem.run Try.prog (Op.shift .shl .u64 1 .i64 1) W = .ok (.int .u64 2) W := fun W => rfl
  go_enter Try.func19, Try.ntmps19
  go_wp2_with (go_at_call 44; refine (L0.out _).mono ?_; rintro e w' ⟨rfl, rfl⟩)
  go_region_held3 (fun _ => True) (trivial) (fail)
  go_wp2_with (first
    | (go_at_call 45; refine (D0.out _).mono ?_; rintro e w' ⟨rfl, rfl⟩)
    | (go_at_call 43; refine (S0.out _).mono ?_; rintro e w' ⟨rfl, rfl⟩))
  go_ret
  exact ⟨rfl, _, rfl⟩

theorem laid_inf_5 (w : World) : Calls Try.prog 45 #[.int .u32 8388608, .int .i64 105] w fun e w' => e = .returned (.int .u32 2139095040) ∧ w = w' := by
  go_enter Try.func45, Try.ntmps45
  go_wp2
  go_ret
  exact ⟨rfl, rfl⟩

set_option maxRecDepth 100000 in
set_option maxHeartbeats 2000000 in
theorem rd_5 (w : World) : Calls Try.prog 19 #[.bool false, .int .u64 33554431, .int .i64 (103), .bool false] w fun e w' => e = .returned (.int .u32 2139095040) ∧ ∃ k, w' = w.drewN k := by
  have m1 : max (103 : Int) (-2000) = 103 := by decide
  have m2 : min (103 : Int) 2000 = 103 := by decide
  have m3 : max (104 : Int) (-149) = 104 := by decide
  have l0 := fun W => Len64_raw 33554431 (by decide) W
  rw [show bsize 33554431 = 25 from by decide +kernel] at l0
  have L0 := Lib.hid l0
  clear l0
  have d0 := fun W => laid_inf_5 W
  have D0 := Lib.hid d0
  clear d0
  have s0 := fun W => signed_any false 2139095040 (by decide) W
  rw [show sgB false + 2139095040 = 2139095040 from by decide] at s0
  have S0 := Lib.hid s0
  clear s0
  have o2 : bits .and .u64 16777215 1 = 1 := by decide
  have w9 : IntKind.i64.wrap 0 = 0 := by decide
  have hsh : ∀ W, Sem.run Try.prog (Op.shift .shl .u64 1 .i64 0) W = .ok (.int .u64 1) W := fun W => rfl
  go_enter Try.func19, Try.ntmps19
  go_wp2_with (go_at_call 44; refine (L0.out _).mono ?_; rintro e w' ⟨rfl, rfl⟩)
  go_region_held3 (fun _ => True) (trivial) (fail)
  go_wp2_with (first
    | (go_at_call 45; refine (D0.out _).mono ?_; rintro e w' ⟨rfl, rfl⟩)
    | (go_at_call 43; refine (S0.out _).mono ?_; rintro e w' ⟨rfl, rfl⟩))
  go_ret
  exact ⟨rfl, _, rfl⟩
end Go.Proofs.Ytllchfdddfmjbaa
