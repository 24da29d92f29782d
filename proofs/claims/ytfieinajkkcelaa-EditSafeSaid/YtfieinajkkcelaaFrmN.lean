
/- Layer 4 (frame): the law on nil tables, and on one that nobody made. -/
import Derived.Test.YtfieinajkkcelaaFrmL
namespace Go.Proofs.Ytfieinajkkcelaa.Frm
open Go.RowKit Go.Proofs.Ytfieinajkkcelaa.Mem Go.Proofs.Ytfieinajkkcelaa.CrcM Go.Proofs.Ytfieinajkkcelaa.StuffL Go.Proofs.Ytfieinajkkcelaa.FrmM

/-- a table that nobody made -/
def zeroCells : Array Value := #[.bool false] ++ Array.replicate 256 (.int .u32 0)
theorem zeroCells_0 : zeroCells[0]? = some (.bool false) := by
  unfold zeroCells
  rw [Array.getElem?_append_left (by simp)]
  rfl
theorem built0 : Try.prog.built 61 [] = some zeroCells := by kernel_rfl

theorem Put_unmade (b : Nat) (v : Value) (W : World) (h : W.cell? ⟨b, 0, none⟩ = some (.bool false)) : Calls Try.prog 54 #[.pointer (some ⟨b, 0, none⟩), v] W fun e W' => e = .returned (.slice none 0 0) ∧ W = W' := by
  go_enter Try.func54, Try.ntmps54
  go_wp2_with (go_at_call 65; refine (Crc.is_no b _ h).mono ?_; rintro e w' ⟨rfl, rfl⟩)
  go_ret
  exact ⟨rfl, rfl⟩
theorem Check_unmade (b : Nat) (v : Value) (W : World) (h : W.cell? ⟨b, 0, none⟩ = some (.bool false)) : Calls Try.prog 63 #[.pointer (some ⟨b, 0, none⟩), v] W fun e W' => e = .returned (.tuple #[.slice none 0 0, .bool false]) ∧ W = W' := by
  go_enter Try.func63, Try.ntmps63
  go_wp2_with (go_at_call 65; refine (Crc.is_no b _ h).mono ?_; rintro e w' ⟨rfl, rfl⟩)
  go_ret2
  exact ⟨rfl, rfl⟩
theorem usable_unmade (b : Nat) (W : World) (h : W.cell? ⟨b, 0, none⟩ = some (.bool false)) : Calls Try.prog 51 #[.pointer (some ⟨b, 0, none⟩)] W fun e W' => e = .returned (.bool false) ∧ W = W' := by
  go_enter Try.func51, Try.ntmps51
  go_wp2_with fail
  refine (Put_unmade b _ _ h).mono ?_
  rintro e w' ⟨rfl, rfl⟩
  go_wp2_with fail
  refine (Check_unmade b _ _ h).mono ?_
  rintro e w' ⟨rfl, rfl⟩
  go_wp2
  go_ret
  exact ⟨rfl, rfl⟩

theorem Wrap_nil (v : Value) (W : World) : Calls Try.prog 35 #[.pointer none, v] W fun e W' => e = .returned (.tuple #[.slice none 0 0, .int .i64 5]) ∧ W = W' := by
  go_enter Try.func35, Try.ntmps35
  go_wp2_with (go_at_call 51; refine (usable_nil _).mono ?_; rintro e w' ⟨rfl, rfl⟩)
  go_ret2
  exact ⟨rfl, rfl⟩
theorem Body_nil (v : Value) (W : World) : Calls Try.prog 55 #[.pointer none, v] W fun e W' => e = .returned (.tuple #[.slice none 0 0, .int .i64 5]) ∧ W = W' := by
  go_enter Try.func55, Try.ntmps55
  go_wp2_with (go_at_call 51; refine (usable_nil _).mono ?_; rintro e w' ⟨rfl, rfl⟩)
  go_ret2
  exact ⟨rfl, rfl⟩
end Go.Proofs.Ytfieinajkkcelaa.Frm
