
/- Layer 2 (crc): what a nil table answers. -/
import Derived.Test.YtonjdkankegdaaaCrc
namespace Go.Proofs.Ytonjdkankegdaaa.Crc
open Go.RowKit Go.Proofs.Ytonjdkankegdaaa.Mem Go.Proofs.Ytonjdkankegdaaa.Oct Go.Proofs.Ytonjdkankegdaaa.CrcM

theorem Sum_nil (v : Value) (W : World) : Calls Try.prog 70 #[.pointer none, v] W fun e W' => e = .returned (.int .u32 0) ∧ W = W' := by
  go_enter Try.func70, Try.ntmps70
  go_wp2_with (go_at_call 68; refine (is_nil _).mono ?_; rintro e w' ⟨rfl, rfl⟩)
  go_ret
  exact ⟨rfl, rfl⟩
theorem Put_nil (v : Value) (W : World) : Calls Try.prog 63 #[.pointer none, v] W fun e W' => e = .returned (.slice none 0 0) ∧ W = W' := by
  go_enter Try.func63, Try.ntmps63
  go_wp2_with (go_at_call 68; refine (is_nil _).mono ?_; rintro e w' ⟨rfl, rfl⟩)
  go_ret
  exact ⟨rfl, rfl⟩
theorem Check_nil (v : Value) (W : World) : Calls Try.prog 65 #[.pointer none, v] W fun e W' => e = .returned (.tuple #[.slice none 0 0, .bool false]) ∧ W = W' := by
  go_enter Try.func65, Try.ntmps65
  go_wp2_with (go_at_call 68; refine (is_nil _).mono ?_; rintro e w' ⟨rfl, rfl⟩)
  go_ret2
  exact ⟨rfl, rfl⟩

end Go.Proofs.Ytonjdkankegdaaa.Crc
