
/- Layer 1 (octet): what Put, Number and their references compute. -/
import Derived.Test.YtogijioehdaefaaChecked
import Derived.Test.YtogijioehdaefaaMem
import Derived.WalkKit
import Derived.WalkLawsBesides
import Derived.WalkSpells
import Derived.Lib.Hide
import Derived.Outline
import Derived.Handy
import Derived.Deep.QuietTactic
import Derived.BigQuiet
namespace Go.Proofs.Ytogijioehdaefaa.Oct
open Go.RowKit Go.Proofs.Ytogijioehdaefaa.Mem

theorem infoU8 : (Try.prog.info? 5).map (fun i => (i.zero, i.size, i.bytes)) = some (some (.int .u8 0), 1, 1) := by kernel_rfl

theorem ret_int {k : IntKind} {a b : Int} (h : a = b) : Ending.returned (.int k a) = .returned (.int k b) := by rw [h]
theorem ret_bool {a b : Bool} (h : a = b) : Ending.returned (.bool a) = .returned (.bool b) := by rw [h]

/-- the lowest k bytes of n, the highest first -/
def put (n : Nat) : Nat → List UInt8
  | 0 => []
  | k + 1 => UInt8.ofNat (n / 256 ^ k) :: put n k
theorem put_length (n k : Nat) : (put n k).length = k := by
  induction k with
  | zero => rfl
  | succ k ih => simp [put, ih]

/-- what Put answers -/
def putW (n wide : Int) : List UInt8 := if 1 ≤ wide ∧ wide ≤ 8 then put n.toNat wide.toNat else []

/-- a call hands back bytes of its own, and leaves what was there -/
def Gives (w : World) (l : List UInt8) (e : Ending) (w' : World) : Prop := ∃ v, e = .returned v ∧ Own 5 w' w.heap.size v l ∧ Below w.heap.size w w'

theorem putc (n : Int) (h0 : 0 ≤ n) (k : Nat) : n / 2 ^ (8 * k) % 256 = ((UInt8.ofNat (n.toNat / 256 ^ k)).toNat : Int) := by
  obtain ⟨m, rfl⟩ := Int.eq_ofNat_of_zero_le h0
  rw [Int.toNat_natCast, Nat.pow_mul 2 8 k |> fun h => (show (2 : Int) ^ (8 * k) = ((256 ^ k : Nat) : Int) by rw [show (256 : Nat) = 2 ^ 8 from rfl, ← h]; simp)]
  rw [← Int.natCast_ediv]
  simp

theorem put_set (n k k0 : Nat) (h : k < k0) : (List.replicate (k0 - k) 0 ++ put n k).set (k0 - 1 - k) (UInt8.ofNat (n / 256 ^ k)) = List.replicate (k0 - (k + 1)) 0 ++ put n (k + 1) := by
  obtain ⟨d, rfl⟩ : ∃ d, k0 = d + k + 1 := ⟨k0 - k - 1, by omega⟩
  rw [show d + k + 1 - k = d + 1 by omega, show d + k + 1 - 1 - k = d by omega, show d + k + 1 - (k + 1) = d by omega]
  rw [List.replicate_succ', List.append_assoc, List.set_append_right _ _ (by simp)]
  simp [put]

theorem putW_eq (n : Int) (k : Nat) (h1 : (1 : Int) ≤ k) (h8 : (k : Int) ≤ 8) : putW n k = put n.toNat k := by
  unfold putW
  rw [if_pos ⟨h1, h8⟩, Int.toNat_natCast]
theorem putW_no (n w : Int) (h : ¬ (1 ≤ w ∧ w ≤ 8)) : putW n w = [] := by
  unfold putW
  rw [if_neg h]

/-- the number whose bytes these are -/
def num (l : List UInt8) : Nat := l.foldl (fun a c => a * 256 + c.toNat) 0
def numW (l : List UInt8) : Int := if l.length ≤ 8 then (num l : Int) else 0
theorem num_snoc (l : List UInt8) (c : UInt8) : num (l ++ [c]) = num l * 256 + c.toNat := by simp [num]
theorem num_lt (l : List UInt8) : num l < 256 ^ l.length := by
  have key : ∀ (l : List UInt8) (a : Nat), l.foldl (fun a c => a * 256 + c.toNat) a < (a + 1) * 256 ^ l.length := by
    intro l
    induction l with
    | nil => intro a; simp
    | cons c l ih =>
      intro a
      have := ih (a * 256 + c.toNat)
      have hc := c.toNat_lt
      refine Nat.lt_of_lt_of_le this ?_
      rw [List.length_cons, Nat.pow_succ, Nat.mul_comm (256 ^ l.length) 256, ← Nat.mul_assoc]
      exact Nat.mul_le_mul_right _ (by omega)
  have := key l 0
  simpa [num] using this
theorem num_step (l : List UInt8) (k : Nat) (h : k < l.length) : (num (l.take (k + 1)) : Int) = (num (l.take k) : Int) * 256 + byteAt l k := by
  rw [take_snoc l k h, num_snoc]
  simp [byteAt, nth8]
theorem num_take_lt (l : List UInt8) (k : Nat) (hk : k < 8) : (num (l.take k) : Int) < 72057594037927936 := by
  have h1 := num_lt (l.take k)
  have h2 : (l.take k).length ≤ 7 := by rw [List.length_take]; omega
  have h3 : 256 ^ (l.take k).length ≤ 256 ^ 7 := Nat.pow_le_pow_right (by decide) h2
  omega

theorem or_byte (x y : Int) (h0 : 0 ≤ x) (h1 : x < 72057594037927936) (h2 : 0 ≤ y) (h3 : y ≤ 255) : bits .or .u64 (x * 256) y = x * 256 + y :=
  bits_join .u64 64 (by decide) (fun n a b => by rw [IntKind.wrap_u64]; exact Int.emod_eq_of_lt a b) 8 (x * 256) y (by omega) (by omega) (by omega) h2 (by omega) (by omega)

theorem numW_le (l : List UInt8) (h : l.length ≤ 8) : numW l = (num l : Int) := by unfold numW; rw [if_pos h]
theorem numW_gt (l : List UInt8) (h : ¬ l.length ≤ 8) : numW l = 0 := by unfold numW; rw [if_neg h]

end Go.Proofs.Ytogijioehdaefaa.Oct
