
/- Layer 3 (stuff): what Get and its reference compute. -/
import Derived.Test.YtogijioehdaefaaStuff
namespace Go.Proofs.Ytogijioehdaefaa.Stuff
open Go.RowKit Go.Proofs.Ytogijioehdaefaa.Mem Go.Proofs.Ytogijioehdaefaa.StuffL

/-- the error's number: 0 where there is an answer -/
def eno (r : Option (List UInt8)) (no : Int) : Int := match r with | some _ => 0 | none => no
/-- bytes of the call's own, or nil and the error -/
def GivesE (w : World) (r : Option (List UInt8)) (no : Int) (e : Ending) (w' : World) : Prop :=
  ∃ v, e = .returned (.tuple #[v, .int .i64 (eno r no)]) ∧ Own 5 w' w.heap.size v (r.getD []) ∧ Below w.heap.size w w'

theorem esc_toNat (c : UInt8) : esc c = ((c.toNat : Int) == 126 || (c.toNat : Int) == 125) := by
  have h : ∀ (d : UInt8), (c == d) = ((c.toNat : Int) == (d.toNat : Int)) := by
    intro d
    rw [Bool.eq_iff_iff]
    simp [← UInt8.toNat_inj]
    omega
  unfold esc
  rw [h, h]
  rfl
theorem nth8_eq (l : List UInt8) (k : Nat) (d : UInt8) : nth8 l k = d ↔ byteAt l k = (d.toNat : Int) := by
  unfold byteAt nth8
  rw [← UInt8.toNat_inj]
  omega

theorem go_step (l : List UInt8) (k : Nat) (h : k < l.length) {s : Option (List UInt8 × Bool)} (hs : go (some ([], false)) (l.take k) = s) : go (some ([], false)) (l.take (k + 1)) = ustep s (nth8 l k) := by
  rw [take_snoc l k h, go_snoc, hs]
theorem get_none {l : List UInt8} {k : Nat} (h : go (some ([], false)) (l.take k) = none) : unput l = none := by
  have : go (some ([], false)) l = none := by
    have e : l = l.take k ++ l.drop k := (List.take_append_drop k l).symm
    rw [e, go_append, h, go_none]
  unfold unput
  rw [this]
  rfl
theorem get_end {l : List UInt8} {o : List UInt8} {b : Bool} (h : go (some ([], false)) (l.take l.length) = some (o, b)) : unput l = if b then none else some o := by
  rw [List.take_of_length_le (Nat.le_refl _)] at h
  unfold unput
  rw [h]
  cases b <;> rfl

theorem ret_err {l : List UInt8} {no : Int} (h : unput l = none) : Ending.returned (.tuple #[.slice none 0 0, .int .i64 no]) = .returned (.tuple #[.slice none 0 0, .int .i64 (eno (unput l) no)]) := by
  rw [h]; rfl
theorem ret_ok {l o : List UInt8} {v : Value} {no : Int} (h : unput l = some o) : Ending.returned (.tuple #[v, .int .i64 0]) = .returned (.tuple #[v, .int .i64 (eno (unput l) no)]) := by
  rw [h]; rfl
theorem own_err {l : List UInt8} {w : World} {base : Nat} (h : unput l = none) : Own 5 w base (.slice none 0 0) ((unput l).getD []) := by
  rw [h]; exact Own.nil _ _ _
theorem own_ok {l o : List UInt8} {v : Value} {w : World} {base : Nat} (h : unput l = some o) (ho : Own 5 w base v o) : Own 5 w base v ((unput l).getD []) := by
  rw [h]; exact ho

end Go.Proofs.Ytogijioehdaefaa.Stuff
