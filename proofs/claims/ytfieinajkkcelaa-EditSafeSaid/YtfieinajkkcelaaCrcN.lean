
/- Layer 2 (crc): what a nil table answers. -/
import Derived.Test.YtfieinajkkcelaaCrc
namespace Go.Proofs.Ytfieinajkkcelaa.Crc
open Go.RowKit Go.Proofs.Ytfieinajkkcelaa.Mem Go.Proofs.Ytfieinajkkcelaa.Oct Go.Proofs.Ytfieinajkkcelaa.CrcM

theorem Sum_nil (v : Value) (W : World) : Calls Try.prog 67 #[.pointer none, v] W fun e W' => e = .returned (.int .u32 0) ∧ W = W' := by
  go_enter Try.func67, Try.ntmps67
  go_wp2_with (go_at_call 65; refine (is_nil _).mono ?_; rintro e w' ⟨rfl, rfl⟩)
  go_ret
  exact ⟨rfl, rfl⟩
theorem Put_nil (v : Value) (W : World) : Calls Try.prog 54 #[.pointer none, v] W fun e W' => e = .returned (.slice none 0 0) ∧ W = W' := by
  go_enter Try.func54, Try.ntmps54
  go_wp2_with (go_at_call 65; refine (is_nil _).mono ?_; rintro e w' ⟨rfl, rfl⟩)
  go_ret
  exact ⟨rfl, rfl⟩
theorem Check_nil (v : Value) (W : World) : Calls Try.prog 63 #[.pointer none, v] W fun e W' => e = .returned (.tuple #[.slice none 0 0, .bool false]) ∧ W = W' := by
  go_enter Try.func63, Try.ntmps63
  go_wp2_with (go_at_call 65; refine (is_nil _).mono ?_; rintro e w' ⟨rfl, rfl⟩)
  go_ret2
  exact ⟨rfl, rfl⟩

end Go.Proofs.Ytfieinajkkcelaa.Crc
