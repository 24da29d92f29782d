
/- Numbers in bytes, there and back. -/
import Derived.Test.YtonjdkankegdaaaPktA
namespace Go.Proofs.Ytonjdkankegdaaa.Pkt
open Go.Proofs.Ytonjdkankegdaaa.Oct

theorem foldl_num (l : List UInt8) (a : Nat) : l.foldl (fun a c => a * 256 + c.toNat) a = a * 256 ^ l.length + num l := by
  induction l generalizing a with
  | nil => simp [num]
  | cons c l ih =>
    rw [List.foldl_cons, ih]
    unfold num
    rw [List.foldl_cons, ih (0 * 256 + c.toNat), List.length_cons, Nat.pow_succ]
    simp only [Nat.zero_mul, Nat.zero_add, Nat.add_mul, Nat.add_assoc, num]
    rw [Nat.mul_assoc, Nat.mul_comm 256]
theorem num_cons (c : UInt8) (l : List UInt8) : num (c :: l) = c.toNat * 256 ^ l.length + num l := by
  show List.foldl _ _ (c :: l) = _
  rw [List.foldl_cons, foldl_num]
  simp
theorem num_of_put (n k : Nat) : num (put n k) = n % 256 ^ k := by
  induction k with
  | zero => simp [put, num, Nat.mod_one]
  | succ k ih =>
    have : num (put n (k + 1)) = (UInt8.ofNat (n / 256 ^ k)).toNat * 256 ^ k + num (put n k) := by
      show num (UInt8.ofNat (n / 256 ^ k) :: put n k) = _
      rw [num_cons, put_length]
    rw [this, ih, Nat.pow_succ, Nat.mod_mul]
    simp
    rw [Nat.mul_comm, Nat.add_comm]
theorem numW_of_put (n : Int) (h0 : 0 ≤ n) (k : Nat) (h1 : 1 ≤ k) (h8 : k ≤ 8) : numW (putW n k) = n % ((256 ^ k : Nat) : Int) ∧ (putW n k).length = k := by
  have hp := putW_eq n k (by omega) (by omega)
  rw [hp]
  have hl := put_length n.toNat k
  refine ⟨?_, hl⟩
  rw [numW_le _ (by omega), num_of_put]
  obtain ⟨m, rfl⟩ := Int.eq_ofNat_of_zero_le h0
  simp
theorem put_more (k : Nat) : ∀ n a : Nat, put (n + a * 256 ^ k) k = put n k := by
  induction k with
  | zero => intro n a; simp [put]
  | succ k ih =>
    intro n a
    show UInt8.ofNat ((n + a * 256 ^ (k + 1)) / 256 ^ k) :: put (n + a * 256 ^ (k + 1)) k = UInt8.ofNat (n / 256 ^ k) :: put n k
    have h : a * 256 ^ (k + 1) = a * 256 * 256 ^ k := by rw [Nat.pow_succ, Nat.mul_assoc, Nat.mul_comm 256]
    rw [h, ih, Nat.add_mul_div_right _ _ (Nat.pow_pos (by decide))]
    congr 1
    apply UInt8.toNat.inj
    simp
theorem num_lt (l : List UInt8) : num l < 256 ^ l.length := by
  induction l with
  | nil => simp [num]
  | cons c l ih =>
    rw [num_cons, List.length_cons, Nat.pow_succ]
    have := c.toNat_lt
    have h2 : c.toNat * 256 ^ l.length ≤ 255 * 256 ^ l.length := Nat.mul_le_mul_right _ (by omega)
    omega
theorem put_of_num (l : List UInt8) : put (num l) l.length = l := by
  induction l with
  | nil => simp [put]
  | cons c l ih =>
    rw [List.length_cons]
    show UInt8.ofNat (num (c :: l) / 256 ^ l.length) :: put (num (c :: l)) l.length = c :: l
    rw [num_cons, Nat.add_comm, put_more, ih, Nat.add_mul_div_right _ _ (Nat.pow_pos (by decide)), Nat.div_eq_of_lt (num_lt l)]
    congr 1
    apply UInt8.toNat.inj
    simp
theorem putW_of_num (l : List UInt8) (k : Nat) (hk : l.length = k) (h1 : 1 ≤ k) (h8 : k ≤ 8) : putW (numW l) k = l := by
  rw [numW_le _ (by omega), putW_eq _ _ (by omega) (by omega)]
  subst hk
  simpa using put_of_num l
end Go.Proofs.Ytonjdkankegdaaa.Pkt
