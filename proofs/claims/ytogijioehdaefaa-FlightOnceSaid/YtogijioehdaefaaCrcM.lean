
/- CRC-32 on natural numbers: a bit's step, a byte's, a table, sums, and what follows from linearity. No program in sight. -/
import Derived.Test.YtogijioehdaefaaMem
namespace Go.Proofs.Ytogijioehdaefaa.CrcM

def poly : Nat := 3988292384
/-- one bit's step -/
def cstep (x : Nat) : Nat := if x % 2 = 1 then x / 2 ^^^ poly else x / 2
def steps : Nat → Nat → Nat
  | 0, x => x
  | n + 1, x => steps n (cstep x)

theorem cstep_xor (a b : Nat) : cstep (a ^^^ b) = cstep a ^^^ cstep b := by
  have h1 : (a ^^^ b) / 2 = a / 2 ^^^ b / 2 := Nat.xor_div_two
  have h2 : (a ^^^ b) % 2 = (a + b) % 2 := by
    have h := Nat.testBit_xor a b 0
    rw [Nat.testBit_zero, Nat.testBit_zero, Nat.testBit_zero] at h
    rcases Nat.mod_two_eq_zero_or_one a with ha | ha <;> rcases Nat.mod_two_eq_zero_or_one b with hb | hb <;> rcases Nat.mod_two_eq_zero_or_one (a ^^^ b) with hx | hx <;> rw [ha, hb, hx] at h <;> first | omega | exact absurd h (by decide)
  unfold cstep
  rw [h1, h2]
  rcases Nat.mod_two_eq_zero_or_one a with ha | ha <;> rcases Nat.mod_two_eq_zero_or_one b with hb | hb
  · rw [if_neg (by omega), if_neg (by omega), if_neg (by omega)]
  · rw [if_pos (by omega), if_neg (by omega), if_pos (by omega), Nat.xor_assoc]
  · rw [if_pos (by omega), if_pos (by omega), if_neg (by omega), Nat.xor_assoc, Nat.xor_assoc, Nat.xor_comm (b / 2) poly]
  · rw [if_neg (by omega), if_pos (by omega), if_pos (by omega)]
    rw [Nat.xor_assoc, ← Nat.xor_assoc poly, Nat.xor_comm poly (b / 2), Nat.xor_assoc (b / 2), Nat.xor_self, Nat.xor_zero]
theorem steps_xor (n : Nat) : ∀ a b, steps n (a ^^^ b) = steps n a ^^^ steps n b := by
  induction n with
  | zero => intro a b; rfl
  | succ n ih => intro a b; simp only [steps]; rw [cstep_xor, ih]
theorem steps_add (m : Nat) : ∀ n x, steps (m + n) x = steps n (steps m x) := by
  induction m with
  | zero => intro n x; rw [Nat.zero_add]; rfl
  | succ m ih => intro n x; rw [show m + 1 + n = (m + n) + 1 by omega]; simp only [steps]; exact ih n _
theorem steps_succ (n x : Nat) : steps (n + 1) x = cstep (steps n x) := steps_add n 1 x
theorem steps_zero (n : Nat) : steps n 0 = 0 := by
  induction n with
  | zero => rfl
  | succ n ih => simp only [steps]; exact ih
theorem cstep_lt {x : Nat} (h : x < 4294967296) : cstep x < 4294967296 := by
  unfold cstep
  split
  · exact Nat.xor_lt_two_pow (n := 32) (by omega) (by unfold poly; omega)
  · omega
theorem steps_lt (n : Nat) : ∀ {x : Nat}, x < 4294967296 → steps n x < 4294967296 := by
  induction n with
  | zero => intro x h; exact h
  | succ n ih => intro x h; simp only [steps]; exact ih (cstep_lt h)
theorem cstep_eq_zero {x : Nat} (h : x < 4294967296) (h0 : cstep x = 0) : x = 0 := by
  unfold cstep at h0
  split at h0
  · have h1 : x / 2 = poly := by
      have := congrArg (· ^^^ poly) h0
      simp only [Nat.xor_assoc, Nat.xor_self, Nat.xor_zero, Nat.zero_xor] at this
      exact this
    unfold poly at h1
    omega
  · omega
theorem steps_eq_zero (n : Nat) : ∀ {x : Nat}, x < 4294967296 → steps n x = 0 → x = 0 := by
  induction n with
  | zero => intro x _ h; exact h
  | succ n ih => intro x h h0; simp only [steps] at h0; exact cstep_eq_zero h (ih (cstep_lt h) h0)
theorem cstep_even (k : Nat) : cstep (2 * k) = k := by
  unfold cstep
  rw [if_neg (by omega)]
  omega
theorem steps8_high (k : Nat) : steps 8 (256 * k) = k := by
  show cstep (cstep (cstep (cstep (cstep (cstep (cstep (cstep (256 * k)))))))) = k
  rw [show 256 * k = 2 * (2 * (2 * (2 * (2 * (2 * (2 * (2 * k))))))) by omega]
  simp only [cstep_even]

theorem split8 (x : Nat) : x = (x % 256) ^^^ (256 * (x / 256)) := by
  apply Nat.eq_of_testBit_eq
  intro i
  rw [Nat.testBit_xor, show (256 : Nat) = 2 ^ 8 by rfl, Nat.testBit_mod_two_pow, Nat.testBit_two_pow_mul, Nat.testBit_div_two_pow]
  by_cases h : i < 8
  · simp [h, show ¬ 8 ≤ i by omega]
  · simp [h, show 8 ≤ i by omega, show i - 8 + 8 = i by omega]
theorem byte_lt (c : UInt8) : c.toNat < 256 := c.toNat_lt
theorem byte_xor_lt {a b : Nat} (ha : a < 256) (hb : b < 256) : a ^^^ b < 256 := Nat.xor_lt_two_pow (n := 8) ha hb
theorem word_xor_lt {a b : Nat} (ha : a < 4294967296) (hb : b < 4294967296) : a ^^^ b < 4294967296 := Nat.xor_lt_two_pow (n := 32) ha hb

/-- a byte's step by the table -/
theorem by_table (x c : Nat) : steps 8 ((x % 256) ^^^ c) ^^^ (x / 256) = steps 8 (x ^^^ c) := by
  have h := split8 x
  rw [show steps 8 (x ^^^ c) = steps 8 (((x % 256) ^^^ c) ^^^ (256 * (x / 256))) by
    congr 1
    rw [Nat.xor_assoc, Nat.xor_comm c, ← Nat.xor_assoc, ← h]]
  rw [steps_xor 8 ((x % 256) ^^^ c), steps8_high]

/-- going over bytes -/
def feed1 (x : Nat) (c : UInt8) : Nat := steps 8 (x ^^^ c.toNat)
def feed (x : Nat) (l : List UInt8) : Nat := l.foldl feed1 x
theorem feed_snoc (x : Nat) (l : List UInt8) (c : UInt8) : feed x (l ++ [c]) = steps 8 (feed x l ^^^ c.toNat) := by simp [feed, feed1]
theorem feed_append (x : Nat) (l m : List UInt8) : feed x (l ++ m) = feed (feed x l) m := by simp [feed]
theorem feed_nil (x : Nat) : feed x [] = x := rfl
theorem feed1_lt {x : Nat} (h : x < 4294967296) (c : UInt8) : feed1 x c < 4294967296 := steps_lt 8 (word_xor_lt h (Nat.lt_trans (byte_lt c) (by decide)))
theorem feed_lt (l : List UInt8) : ∀ {x : Nat}, x < 4294967296 → feed x l < 4294967296 := by
  induction l with
  | nil => intro x h; exact h
  | cons c l ih => intro x h; exact ih (feed1_lt h c)

/-- all ones -/
def ones : Nat := 4294967295
def sum (l : List UInt8) : Nat := feed ones l ^^^ ones
def more (s : Nat) (l : List UInt8) : Nat := feed (s ^^^ ones) l ^^^ ones
theorem sum_lt (l : List UInt8) : sum l < 4294967296 := word_xor_lt (feed_lt l (by decide)) (by decide)
theorem more_lt {s : Nat} (h : s < 4294967296) (l : List UInt8) : more s l < 4294967296 := word_xor_lt (feed_lt l (word_xor_lt h (by decide))) (by decide)
theorem xor_ones_ones (x : Nat) : x ^^^ ones ^^^ ones = x := by rw [Nat.xor_assoc, Nat.xor_self, Nat.xor_zero]
theorem more_sum (l m : List UInt8) : more (sum l) m = sum (l ++ m) := by
  unfold more sum
  rw [xor_ones_ones, feed_append]

/-- a sum's bytes, the lowest first -/
def le4 (s : Nat) : List UInt8 := [UInt8.ofNat s, UInt8.ofNat (s / 256), UInt8.ofNat (s / 65536), UInt8.ofNat (s / 16777216)]
theorem le4_length (s : Nat) : (le4 s).length = 4 := rfl
/-- bytes with their sum -/
def cput (l : List UInt8) : List UInt8 := l ++ le4 (sum l)
/-- are bytes followed by their sum? -/
def cok (l : List UInt8) : Bool := decide (4 ≤ l.length) && (l.drop (l.length - 4) == le4 (sum (l.take (l.length - 4))))
def cbody (l : List UInt8) : List UInt8 := if cok l = true then l.take (l.length - 4) else []
theorem cput_length (l : List UInt8) : (cput l).length = l.length + 4 := by simp [cput, le4]
theorem cok_put (l : List UInt8) : cok (cput l) = true ∧ cbody (cput l) = l := by
  have h : cok (cput l) = true := by
    unfold cok cput
    simp [le4]
  refine ⟨h, ?_⟩
  unfold cbody
  rw [if_pos h]
  simp [cput, le4]

theorem feed1_pair (x b n : Nat) : steps n (steps 8 x ^^^ b) = steps (8 + n) (x ^^^ (256 * b)) := by
  rw [steps_add, steps_xor 8 x, steps8_high]
/-- four bytes at once -/
theorem feed_le4 (x s : Nat) (h : s < 4294967296) : feed x (le4 s) = steps 32 (x ^^^ s) := by
  have e : ∀ k : Nat, (UInt8.ofNat k).toNat = k % 256 := fun k => by simp
  show steps 8 (steps 8 (steps 8 (steps 8 (x ^^^ (UInt8.ofNat s).toNat) ^^^ (UInt8.ofNat (s / 256)).toNat) ^^^ (UInt8.ofNat (s / 65536)).toNat) ^^^ (UInt8.ofNat (s / 16777216)).toNat) = _
  rw [e, e, e, e, feed1_pair, Nat.xor_assoc, feed1_pair, Nat.xor_assoc, feed1_pair, Nat.xor_assoc]
  have a1 := split8 s
  have a2 := split8 (s / 256)
  have a3 := split8 (s / 65536)
  have b3 : s / 65536 / 256 = s / 16777216 % 256 := by omega
  have b2 : s / 256 / 256 = s / 65536 := by omega
  rw [b3] at a3
  rw [b2, a3] at a2
  rw [a2] at a1
  rw [← a1]
end Go.Proofs.Ytogijioehdaefaa.CrcM
