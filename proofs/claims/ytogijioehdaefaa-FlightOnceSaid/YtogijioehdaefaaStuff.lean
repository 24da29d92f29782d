
/- Layer 3 (stuff): what Put, Get, Plain, Size and their references compute. -/
import Derived.Test.YtogijioehdaefaaChecked
import Derived.Test.YtogijioehdaefaaMem
import Derived.Test.YtogijioehdaefaaStuffL
import Derived.WalkKit
import Derived.WalkLawsBesides
import Derived.WalkSpells
import Derived.Lib.Hide
import Derived.Outline
import Derived.Handy
import Derived.Deep.QuietTactic
import Derived.BigQuiet
import Derived.Laws.BitsAllLaws
namespace Go.Proofs.Ytogijioehdaefaa.Stuff
open Go.RowKit Go.Proofs.Ytogijioehdaefaa.Mem Go.Proofs.Ytogijioehdaefaa.StuffL

theorem infoU8 : (Try.prog.info? 5).map (fun i => (i.zero, i.size, i.bytes)) = some (some (.int .u8 0), 1, 1) := by kernel_rfl
theorem ret_int {k : IntKind} {a b : Int} (h : a = b) : Ending.returned (.int k a) = .returned (.int k b) := by rw [h]
theorem ret_bool {a b : Bool} (h : a = b) : Ending.returned (.bool a) = .returned (.bool b) := by rw [h]

/-- a call hands back bytes of its own, and leaves what was there -/
def Gives (w : World) (l : List UInt8) (e : Ending) (w' : World) : Prop := ∃ v, e = .returned v ∧ Own 5 w' w.heap.size v l ∧ Below w.heap.size w w'

theorem esc_iff (l : List UInt8) (k : Nat) : esc (nth8 l k) = (byteAt l k == 126 || byteAt l k == 125) := by
  unfold esc byteAt nth8
  have h : ∀ (c d : UInt8), (c == d) = ((c.toNat : Int) == (d.toNat : Int)) := by
    intro c d
    rw [Bool.eq_iff_iff]
    simp [← UInt8.toNat_inj]
    omega
  rw [h, h]
  rfl

theorem put_step (l : List UInt8) (k : Nat) (h : k < l.length) : put (l.take (k + 1)) = put (l.take k) ++ one (nth8 l k) := by rw [take_snoc l k h, put_snoc]
theorem put_step_len (l : List UInt8) (k : Nat) (h : k < l.length) : (put (l.take (k + 1))).length = (put (l.take k)).length + (if (byteAt l k == 126 || byteAt l k == 125) = true then 2 else 1) := by
  rw [put_step l k h, List.length_append]
  unfold one
  rw [esc_iff]
  split <;> rfl
theorem put_take_length (l : List UInt8) (k : Nat) (hk : k ≤ l.length) : k ≤ (put (l.take k)).length ∧ (put (l.take k)).length ≤ 2 * k := by
  have h := put_length (l.take k)
  rw [List.length_take] at h
  omega

/-- a byte turned -/
def fl (c : UInt8) : UInt8 := c ^^^ 32
theorem xor32 (l : List UInt8) (k : Nat) : bits .xor .u8 (byteAt l k) 32 = ((fl (nth8 l k)).toNat : Int) := by
  have h := byteAt_range l k
  rw [u8_xor _ _ (by omega) (by omega) (by omega) (by omega)]
  unfold byteAt fl nth8
  simp

theorem one_esc {l : List UInt8} {k : Nat} (h : (byteAt l k == 126 || byteAt l k == 125) = true) : one (nth8 l k) = [125, fl (nth8 l k)] := by
  unfold one fl
  rw [esc_iff, if_pos h]
theorem one_plain {l : List UInt8} {k : Nat} (h : (byteAt l k == 126 || byteAt l k == 125) = false) : one (nth8 l k) = [nth8 l k] := by
  unfold one
  rw [esc_iff, if_neg (by rw [h]; decide)]

/-- in the fresh row 'g' of capacity 'c' lies l -/
def Row (w : World) (base g c : Nat) (v : Value) (l : List UInt8) : Prop := v = .slice (some ⟨g, 0, none⟩) l.length c ∧ Own 5 w base v l

end Go.Proofs.Ytogijioehdaefaa.Stuff
