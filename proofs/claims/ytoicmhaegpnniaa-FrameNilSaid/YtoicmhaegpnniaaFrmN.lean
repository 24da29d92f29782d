
/- Layer 4 (frame): the law on nil tables, and on one that nobody made. -/
import Derived.Test.YtoicmhaegpnniaaFrmL
namespace Go.Proofs.Ytoicmhaegpnniaa.Frm
open Go.RowKit Go.Proofs.Ytoicmhaegpnniaa.Mem Go.Proofs.Ytoicmhaegpnniaa.CrcM Go.Proofs.Ytoicmhaegpnniaa.StuffL Go.Proofs.Ytoicmhaegpnniaa.FrmM

/-- a table that nobody made -/
def zeroCells : Array Value := #[.bool false] ++ Array.replicate 256 (.int .u32 0)
theorem zeroCells_0 : zeroCells[0]? = some (.bool false) := by
  unfold zeroCells
  rw [Array.getElem?_append_left (by simp)]
  rfl
theorem built0 : Try.prog.built 53 [] = some zeroCells := by kernel_rfl

theorem Put_unmade (b : Nat) (v : Value) (W : World) (h : W.cell? ⟨b, 0, none⟩ = some (.bool false)) : Calls Try.prog 14 #[.pointer (some ⟨b, 0, none⟩), v] W fun e W' => e = .returned (.slice none 0 0) ∧ W = W' := by
  go_enter Try.func14, Try.ntmps14
  go_wp2_with (go_at_call 36; refine (Crc.is_no b _ h).mono ?_; rintro e w' ⟨rfl, rfl⟩)
  go_ret
  exact ⟨rfl, rfl⟩
theorem Check_unmade (b : Nat) (v : Value) (W : World) (h : W.cell? ⟨b, 0, none⟩ = some (.bool false)) : Calls Try.prog 15 #[.pointer (some ⟨b, 0, none⟩), v] W fun e W' => e = .returned (.tuple #[.slice none 0 0, .bool false]) ∧ W = W' := by
  go_enter Try.func15, Try.ntmps15
  go_wp2_with (go_at_call 36; refine (Crc.is_no b _ h).mono ?_; rintro e w' ⟨rfl, rfl⟩)
  go_ret2
  exact ⟨rfl, rfl⟩
theorem usable_unmade (b : Nat) (W : World) (h : W.cell? ⟨b, 0, none⟩ = some (.bool false)) : Calls Try.prog 43 #[.pointer (some ⟨b, 0, none⟩)] W fun e W' => e = .returned (.bool false) ∧ W = W' := by
  go_enter Try.func43, Try.ntmps43
  go_wp2_with fail
  refine (Put_unmade b _ _ h).mono ?_
  rintro e w' ⟨rfl, rfl⟩
  go_wp2_with fail
  refine (Check_unmade b _ _ h).mono ?_
  rintro e w' ⟨rfl, rfl⟩
  go_wp2
  go_ret
  exact ⟨rfl, rfl⟩

theorem Wrap_nil (v : Value) (W : World) : Calls Try.prog 25 #[.pointer none, v] W fun e W' => e = .returned (.tuple #[.slice none 0 0, .int .i64 5]) ∧ W = W' := by
  go_enter Try.func25, Try.ntmps25
  go_wp2_with (go_at_call 43; refine (usable_nil _).mono ?_; rintro e w' ⟨rfl, rfl⟩)
  go_ret2
  exact ⟨rfl, rfl⟩
theorem Body_nil (v : Value) (W : World) : Calls Try.prog 33 #[.pointer none, v] W fun e W' => e = .returned (.tuple #[.slice none 0 0, .int .i64 5]) ∧ W = W' := by
  go_enter Try.func33, Try.ntmps33
  go_wp2_with (go_at_call 43; refine (usable_nil _).mono ?_; rintro e w' ⟨rfl, rfl⟩)
  go_ret2
  exact ⟨rfl, rfl⟩
theorem Open_unmade (b : Nat) (v : Value) (W : World) (h : W.cell? ⟨b, 0, none⟩ = some (.bool false)) : Calls Try.prog 31 #[.pointer (some ⟨b, 0, none⟩), v] W fun e W' => e = .returned (.tuple #[.slice none 0 0, .int .i64 5]) ∧ W = W' := by
  go_enter Try.func31, Try.ntmps31
  go_wp2_with (go_at_call 43; refine (usable_unmade b _ h).mono ?_; rintro e w' ⟨rfl, rfl⟩)
  go_ret2
  exact ⟨rfl, rfl⟩

set_option maxHeartbeats 1000000 in
set_option maxRecDepth 100000 in
/-- FrameNil -/
theorem FrameNil_any (v : Value) (W : World) :
    Calls Try.prog 11 #[v] W fun e W' => e = .returned (.bool true) ∧ Below W.heap.size W W' := by
  have hbt := built0
  have h0 : (W.alloc (.cells zeroCells 53)).cell? ⟨W.heap.size, 0, none⟩ = some (.bool false) := by
    rw [cell_of_row _ W.heap.size 0 zeroCells 53 (0, 0) (heap_alloc_new W _)]; exact zeroCells_0
  have hb := below_alloc (Below.refl W.heap.size W) (.cells zeroCells 53)
  have H0 := Lib.hid h0
  clear h0
  go_enter Try.func11, Try.ntmps11
  go_wp2_with fail
  refine (Wrap_nil _ _).mono ?_
  rintro e w' ⟨rfl, rfl⟩
  go_wp2_with (refine wpList_buildTo rfl 53 _ rfl _ rfl zeroCells (by simp only [List.map_toArray, List.map_nil]; exact hbt) ?_)
  refine (Open_unmade W.heap.size _ _ H0.out).mono ?_
  rintro e w' ⟨rfl, rfl⟩
  go_wp2_with fail
  refine (Body_nil _ _).mono ?_
  rintro e w' ⟨rfl, rfl⟩
  go_wp2_with (go_at_call 27; refine (num_any _ _).mono ?_; rintro e w' ⟨rfl, rfl⟩)
  refine (live_any _).mono ?_
  rintro e w2 ⟨rfl, hb2⟩
  go_wp2
  go_ret
  exact ⟨rfl, below_next hb hb2⟩
end Go.Proofs.Ytoicmhaegpnniaa.Frm
