
/- Layer 2 (crc): what a nil table answers. -/
import Derived.Test.YtoicmhaegpnniaaCrc
namespace Go.Proofs.Ytoicmhaegpnniaa.Crc
open Go.RowKit Go.Proofs.Ytoicmhaegpnniaa.Mem Go.Proofs.Ytoicmhaegpnniaa.Oct Go.Proofs.Ytoicmhaegpnniaa.CrcM

theorem Sum_nil (v : Value) (W : World) : Calls Try.prog 19 #[.pointer none, v] W fun e W' => e = .returned (.int .u32 0) ∧ W = W' := by
  go_enter Try.func19, Try.ntmps19
  go_wp2_with (go_at_call 36; refine (is_nil _).mono ?_; rintro e w' ⟨rfl, rfl⟩)
  go_ret
  exact ⟨rfl, rfl⟩
theorem Put_nil (v : Value) (W : World) : Calls Try.prog 14 #[.pointer none, v] W fun e W' => e = .returned (.slice none 0 0) ∧ W = W' := by
  go_enter Try.func14, Try.ntmps14
  go_wp2_with (go_at_call 36; refine (is_nil _).mono ?_; rintro e w' ⟨rfl, rfl⟩)
  go_ret
  exact ⟨rfl, rfl⟩
theorem Check_nil (v : Value) (W : World) : Calls Try.prog 15 #[.pointer none, v] W fun e W' => e = .returned (.tuple #[.slice none 0 0, .bool false]) ∧ W = W' := by
  go_enter Try.func15, Try.ntmps15
  go_wp2_with (go_at_call 36; refine (is_nil _).mono ?_; rintro e w' ⟨rfl, rfl⟩)
  go_ret2
  exact ⟨rfl, rfl⟩

end Go.Proofs.Ytoicmhaegpnniaa.Crc
