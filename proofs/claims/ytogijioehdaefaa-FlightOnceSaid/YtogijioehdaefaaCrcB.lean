
/- CRC-32: a burst within four bytes is told. No program in sight. -/
import Derived.Test.YtogijioehdaefaaCrcM
namespace Go.Proofs.Ytogijioehdaefaa.CrcM
open Go.Proofs.Ytogijioehdaefaa.Mem

theorem feed_zip : ∀ (l m : List UInt8) (x y : Nat), l.length = m.length → feed (x ^^^ y) (List.zipWith (· ^^^ ·) l m) = feed x l ^^^ feed y m := by
  intro l
  induction l with
  | nil =>
    intro m x y h
    cases m with
    | nil => rfl
    | cons b m => simp at h
  | cons a l ih =>
    intro m x y h
    cases m with
    | nil => simp at h
    | cons b m =>
      simp only [List.zipWith_cons_cons]
      show feed (feed1 (x ^^^ y) (a ^^^ b)) _ = feed (feed1 x a) l ^^^ feed (feed1 y b) m
      rw [← ih m _ _ (by simpa using h)]
      congr 1
      unfold feed1
      rw [← steps_xor, UInt8.toNat_xor]
      congr 1
      rw [Nat.xor_assoc, Nat.xor_assoc, ← Nat.xor_assoc y, Nat.xor_comm y, Nat.xor_assoc a.toNat]
theorem feed_diff : ∀ (t : List UInt8) (u d : Nat), feed (u ^^^ d) t = feed u t ^^^ steps (8 * t.length) d := by
  intro t
  induction t with
  | nil => intro u d; rfl
  | cons c t ih =>
    intro u d
    show feed (feed1 (u ^^^ d) c) t = feed (feed1 u c) t ^^^ _
    have h : feed1 (u ^^^ d) c = feed1 u c ^^^ steps 8 d := by
      unfold feed1
      rw [← steps_xor]
      congr 1
      rw [Nat.xor_assoc, Nat.xor_comm d, Nat.xor_assoc]
    rw [h, ih, ← steps_add]
    congr 2
    rw [List.length_cons]
    omega
/-- what bytes with their sum come to -/
theorem feed_ok {x : List UInt8} (h : cok x = true) : feed ones x = steps 32 ones := by
  unfold cok at h
  simp only [Bool.and_eq_true, decide_eq_true_eq, beq_iff_eq] at h
  have hx := List.take_append_drop (x.length - 4) x
  rw [h.2] at hx
  generalize x.take (x.length - 4) = a at hx
  rw [← hx, feed_append, feed_le4 _ _ (sum_lt a)]
  unfold sum
  rw [← Nat.xor_assoc, Nat.xor_self, Nat.zero_xor]

/-- four bytes, of which some are turned -/
theorem burst_told (a c t : List UInt8) (s : Nat) (h0 : 0 < s) (h1 : s < 4294967296) (hc : c.length = 4) (h : cok (a ++ c ++ t) = true) : cok (a ++ List.zipWith (· ^^^ ·) c (le4 s) ++ t) = false := by
  rw [← Bool.not_eq_true]
  intro h'
  have e1 := feed_ok h
  have e2 := feed_ok h'
  rw [feed_append, feed_append] at e1 e2
  have e3 := feed_zip c (le4 s) (feed ones a) 0 (by rw [hc]; rfl)
  rw [Nat.xor_zero, feed_le4 _ _ h1, Nat.zero_xor] at e3
  rw [e3, feed_diff, e1] at e2
  have e4 : steps (8 * t.length) (steps 32 s) = 0 := by
    have := congrArg (steps 32 ones ^^^ ·) e2
    simp only [← Nat.xor_assoc, Nat.xor_self, Nat.zero_xor] at this
    exact this
  have := steps_eq_zero _ (steps_lt 32 h1) e4
  have := steps_eq_zero _ h1 this
  omega

/-- the first k bytes of four are turned -/
def burst (p : List UInt8) (i s : Nat) : Nat → List UInt8
  | 0 => p
  | k + 1 => (burst p i s k).set (i + k) (nth8 (burst p i s k) (i + k) ^^^ UInt8.ofNat (s / 256 ^ k))
theorem burst_length (p : List UInt8) (i s k : Nat) : (burst p i s k).length = p.length := by
  induction k with
  | zero => rfl
  | succ k ih => simp [burst, ih]
theorem burst_four (a t : List UInt8) (c0 c1 c2 c3 : UInt8) (s : Nat) : burst (a ++ [c0, c1, c2, c3] ++ t) a.length s 4 = a ++ List.zipWith (· ^^^ ·) [c0, c1, c2, c3] (le4 s) ++ t := by
  simp [burst, nth8, le4, List.getD]
theorem burst_bad (l : List UInt8) (i s : Nat) (hi : i ≤ l.length) (h0 : 0 < s) (h1 : s < 4294967296) : cok (burst (cput l) i s 4) = false := by
  have hp : cput l = (cput l).take i ++ ((cput l).drop i).take 4 ++ (cput l).drop (i + 4) := by
    rw [List.append_assoc, ← List.drop_drop, List.take_append_drop, List.take_append_drop]
  have hl := cput_length l
  have hok := (cok_put l).1
  have ha : ((cput l).take i).length = i := by rw [List.length_take]; omega
  have hc : (((cput l).drop i).take 4).length = 4 := by rw [List.length_take, List.length_drop]; omega
  generalize (cput l).take i = a at hp ha
  generalize ((cput l).drop i).take 4 = c at hp hc
  generalize (cput l).drop (i + 4) = t at hp
  rw [hp] at hok ⊢
  match c, hc with
  | [c0, c1, c2, c3], _ =>
    rw [← ha, burst_four]
    exact burst_told a _ t s h0 h1 rfl hok
end Go.Proofs.Ytogijioehdaefaa.CrcM
