/- Layer 1 (octet): what Hex, Unhex and their references compute. -/
import Derived.Test.YtknpengboappiaaOctE
import Derived.Laws.BitsAllLaws
import Derived.Deep.RegionLaw
namespace Go.Proofs.Ytknpengboappiaa.Oct
open Go.RowKit Go.Proofs.Ytknpengboappiaa.Mem

/-- a digit's number; -1: it is none -/
def hval (n : Int) : Int := if 48 ≤ n ∧ n ≤ 57 then n - 48 else if 97 ≤ n ∧ n ≤ 102 then n - 87 else -1
def hvV (n : Int) : Int := if hval n < 0 then 0 else hval n
def hvB (n : Int) : Bool := decide (0 ≤ hval n)
theorem ret_ib {x a : Int} {y b : Bool} {k : IntKind} (h1 : x = a) (h2 : y = b) : Ending.returned (.tuple #[.int k x, .bool y]) = .returned (.tuple #[.int k a, .bool b]) := by rw [h1, h2]

theorem half_any (n : Int) (h0 : 0 ≤ n) (h1 : n ≤ 255) (W : World) :
    Calls Try.prog 42 #[.int .u8 n] W fun e W' => e = .returned (.tuple #[.int .u8 (hvV n), .bool (hvB n)]) ∧ W = W' := by
  go_enter Try.func42, Try.ntmps42
  go_wp2
  all_goals go_ret2
  all_goals (refine ⟨ret_ib ?_ ?_, rfl⟩ <;> simp only [hvV, hvB, hval] <;> (repeat' split) <;> first | omega | (symm; simp only [decide_eq_true_eq, decide_eq_false_iff_not]; omega))

/-- the sixteen digits -/
def hx (n : Int) : Int := if n < 10 then n + 48 else n + 87

/-- the text of the sixteen digits -/
def digs : ByteArray := ⟨#[48, 49, 50, 51, 52, 53, 54, 55, 56, 57, 97, 98, 99, 100, 101, 102]⟩
theorem dig_at (k : Nat) (h : k < digs.size) : ((digs[k]'h).toNat : Int) = hx k := by
  have key : ∀ i : Fin 16, ((digs[i.val]'i.isLt).toNat : Int) = hx i.val := by decide
  exact key ⟨k, h⟩
theorem hx_hval (k : Nat) (hk : k < 16) (n : Int) : hx k = n ↔ hval n = k := by
  unfold hx hval
  repeat' split
  all_goals omega

theorem digit_any (n : Int) (W : World) :
    Calls Try.prog 43 #[.int .u8 n] W fun e W' => e = .returned (.int .i64 (hval n)) ∧ W = W' := by
  go_enter Try.func43, Try.ntmps43
  go_wp2
  go_loop [3] (fun i => ∃ k : Nat, k ≤ 16 ∧ i = .int .i64 k ∧ (hval n < 0 ∨ (k : Int) ≤ hval n)) (fun i => 16 - (intOf i).toNat)
  case atStart => exact ⟨0, by omega, rfl, by omega⟩
  case round =>
    obtain ⟨k, hk, rfl, hh⟩ := hrel
    have HH := Lib.hid hh
    clear hh
    by_cases hlt : k < 16
    · have H1 := Lib.hid (hx_hval k hlt n)
      go_wp2_with fail
      · have hq : (((digs[k]'hlt).toNat : Int) == n) = true := by assumption
        rw [show ((digs[k]'hlt).toNat : Int) = hx k from dig_at k hlt, beq_iff_eq] at hq
        go_ret
        exact ⟨ret_int (H1.out.1 hq).symm, rfl⟩
      · have hq : (((digs[k]'hlt).toNat : Int) == n) = false := by assumption
        rw [show ((digs[k]'hlt).toNat : Int) = hx k from dig_at k hlt, beq_eq_false_iff_ne, Ne, H1.out] at hq
        go_round
        case rel => exact ⟨k + 1, by omega, by go_num, by have := HH.out; omega⟩
        case measure => simp [intOf]; omega
    · have hn : hval n = -1 := by
        have := HH.out
        have hb : hval n < 16 ∧ -1 ≤ hval n := by unfold hval; repeat' split
                                                  all_goals omega
        omega
      have HN := Lib.hid hn
      clear hn
      go_wp2_with fail
      go_ret
      exact ⟨ret_int HN.out.symm, rfl⟩

/-- bytes in digits -/
def hx8 (c : UInt8) : List UInt8 := [UInt8.ofNat (hx (c.toNat / 16 : Nat)).toNat, UInt8.ofNat (hx (c.toNat % 16 : Nat)).toNat]
def hex (l : List UInt8) : List UInt8 := l.flatMap hx8
theorem hex_step (l : List UInt8) (k : Nat) (h : k < l.length) : hex (l.take (k + 1)) = hex (l.take k) ++ hx8 (nth8 l k) := by
  rw [take_snoc l k h]; simp [hex]
theorem hex_length (l : List UInt8) : (hex l).length = 2 * l.length := by
  induction l with
  | nil => rfl
  | cons c l ih =>
    have : hex (c :: l) = hx8 c ++ hex l := by simp [hex]
    rw [this, List.length_append, ih]
    simp [hx8]
    omega
theorem hx_range (n : Int) (h0 : 0 ≤ n) (h1 : n < 16) : 48 ≤ hx n ∧ hx n ≤ 102 := by unfold hx; split <;> omega

/-- a digit as a byte -/
def dg (n : Nat) : UInt8 := UInt8.ofNat (hx n).toNat
theorem dg_val (n : Nat) (h : n < 16) : ((dg n).toNat : Int) = hx n := by
  have hr := hx_range n (by omega) (by omega)
  unfold dg
  generalize hx n = y at *
  simp
  omega
def hiN (l : List UInt8) (k : Nat) : Nat := (nth8 l k).toNat / 16
def loN (l : List UInt8) (k : Nat) : Nat := (nth8 l k).toNat % 16
theorem hilo (l : List UInt8) (k : Nat) : byteAt l k / 16 = (hiN l k : Int) ∧ byteAt l k % 16 = (loN l k : Int) ∧ hiN l k < 16 ∧ loN l k < 16 := by
  have hr := byteAt_range l k
  have e : byteAt l k = ((nth8 l k).toNat : Int) := rfl
  unfold hiN loN
  rw [e] at hr ⊢
  omega
theorem and15 (l : List UInt8) (k : Nat) : bits .and .u8 (byteAt l k) 15 = byteAt l k % 16 := by
  have hr := byteAt_range l k
  rw [u8_and _ _ (by omega) (by omega) (by omega) (by omega)]
  rw [show (15 : Int).toNat = 2 ^ 4 - 1 from rfl, Nat.and_two_pow_sub_one_eq_mod]
  omega
theorem hx8_eq (l : List UInt8) (k : Nat) : hx8 (nth8 l k) = [dg (hiN l k), dg (loN l k)] := rfl

set_option maxHeartbeats 1000000 in
theorem Hex_any (A : Option Addr) (cap : Nat) (l : List UInt8) (W : World) (hA : Bytes W W.heap.size A l) (hl : l.length ≤ 140737488355328) :
    Calls Try.prog 34 #[.slice A l.length cap] W fun e W' => e = .returned (.string ⟨(hex l).toArray⟩) ∧ Below W.heap.size W W' := by
  obtain ⟨i0, hi, hz0, hz1, hz2⟩ := info_parts infoU8
  go_enter Try.func34, Try.ntmps34
  go_wp2_with (at_make; refine wpList_make_own _ rfl _ _ 22 rfl W.heap.size 5 i0 (.int .u8 0) 1 Try.underlying22 hi hz0 hz1 _ _ _ (2 * l.length) rfl rfl (by omega) (by rw [hz2]; omega) (by unfold maxLen; omega) (Nat.le_refl _) ?_)
  intro w1 hown hgrow
  have hO := own_made0 hown
  have hB := (Below.refl W.heap.size W).grown hgrow (Nat.le_refl _) (fun k hk => by cases hk)
  clear hown hgrow hi hz0 hz1 hz2
  go_wp2_with fail
  go_loopw [3, 12] (fun v i wr => ∃ k : Nat, k ≤ l.length ∧ i = .int .i64 k ∧ v = .slice (some ⟨W.heap.size, 0, none⟩) (2 * k) (2 * l.length) ∧ Own 5 wr W.heap.size v (hex (l.take k)) ∧ Below W.heap.size W wr) (fun _ i _ => l.length - (intOf i).toNat)
  case atStart => exact ⟨0, Nat.zero_le _, rfl, rfl, hO, hB⟩
  case round =>
    obtain ⟨k, hk, rfl, rfl, ho, hb⟩ := hrel
    by_cases hlt : k < l.length
    · obtain ⟨bl, off, rfl, _, hcell⟩ := (hA.below hb (Nat.le_refl _)).at_ hlt
      have hr := byteAt_range l k
      have HS := Lib.hid (hex_step l k hlt)
      have hlen : (hex (l.take k)).length = 2 * k := by rw [hex_length, List.length_take]; omega
      have HL := Lib.hid hlen
      clear hlen
      go_wp2_with fail
      obtain ⟨e1, e2, h16, h16'⟩ := hilo l k
      have e3 : bits .and .u8 (byteAt l k) 15 = (loN l k : Int) := by rw [← e2]; exact and15 l k
      have d1 : ((({ data := #[48, 49, 50, 51, 52, 53, 54, 55, 56, 57, 97, 98, 99, 100, 101, 102] } : ByteArray)[hiN l k]'(h16)).toNat : Int) = ((dg (hiN l k)).toNat : Int) := (dig_at (hiN l k) h16).trans (dg_val _ h16).symm
      have d2 : ((({ data := #[48, 49, 50, 51, 52, 53, 54, 55, 56, 57, 97, 98, 99, 100, 101, 102] } : ByteArray)[loN l k]'(h16')).toNat : Int) = ((dg (loN l k)).toNat : Int) := (dig_at (loN l k) h16').trans (dg_val _ h16').symm
      have i1 : (hiN l k : Int) < 16 := by omega
      have i2 : (loN l k : Int) < 16 := by omega
      have hlb := lit_bytes 5 wr [dg (hiN l k), dg (loN l k)] #[.int .u8 ((dg (hiN l k)).toNat : Int), .int .u8 ((dg (loN l k)).toNat : Int)] rfl (by simp [maxLen])
      go_region_law (refine step_app_fits _ rfl _ _ 22 rfl 5 Try.underlying22 infoU8 W.heap.size W.heap.size _ (2 * l.length) (hex (l.take k)) rfl (Own.alloc (w := wr) ho _) HL.out.symm _ ⟨wr.heap.size, 0, none⟩ [dg (hiN l k), dg (loN l k)] 2 2 rfl rfl hlb (by have := HL.out; simp; omega) ?_; intro w3 ho3 hg3)
      all_goals
        have hb3 := Own.grown (w := (wr.alloc (.cells #[.int .u8 ((dg (hiN l k)).toNat : Int), .int .u8 ((dg (loN l k)).toNat : Int)] 5)).drew) (Own.alloc (w := wr) ho _) (Below.drew (hb.alloc hb.size _)) hg3 (Nat.le_refl _) (Nat.le_refl _)
        clear hg3 ho hb hlb
        go_wp2_with fail
        go_roundw
        case rel => exact ⟨k + 1, hlt, by go_num, by rw [Nat.mul_add], by rw [HS.out, hx8_eq]; exact ho3, hb3⟩
        case measure => simp [intOf]; omega
    · obtain rfl : k = l.length := by omega
      have hlen : (hex (l.take l.length)).length = 2 * l.length := by rw [hex_length, List.length_take, Nat.min_self]
      have hkl : hex (l.take l.length) = hex l := by rw [List.take_length]
      have hcv := run_conv (P := Try.prog) wr (src := 22) (dst := 9) (e := 5) Try.underlying22 Try.underlying5 Try.underlying9 ho.bytes (2 * l.length)
      rw [hlen, hkl] at hcv
      clear hlen hkl
      go_wp2_with fail
      go_ret
      exact ⟨rfl, hb⟩

theorem ba_app (x : List UInt8) (a b : UInt8) : (⟨x.toArray⟩ : ByteArray) ++ ⟨#[a]⟩ ++ ⟨#[b]⟩ = ⟨(x ++ [a, b]).toArray⟩ := by
  rw [ByteArray.mk_append_mk, ByteArray.mk_append_mk]
  simp
theorem dig_cut (k : Nat) (h : k < 16) : digs.extract k (k + 1) = ⟨#[dg k]⟩ := by
  have key : ∀ i : Fin 16, digs.extract i.val (i.val + 1) = ⟨#[dg i.val]⟩ := by decide
  exact key ⟨k, h⟩

set_option maxHeartbeats 1000000 in
theorem refHex_any (A : Option Addr) (cap : Nat) (l : List UInt8) (W : World) (hA : Bytes W W.heap.size A l) (hl : l.length ≤ 140737488355328) :
    Calls Try.prog 37 #[.slice A l.length cap] W fun e W' => e = .returned (.string ⟨(hex l).toArray⟩) ∧ Drawn W W' := by
  go_enter Try.func37, Try.ntmps37
  go_wp2_with fail
  go_loopw [3, 4] (fun v i wr => ∃ k : Nat, k ≤ l.length ∧ i = .int .i64 k ∧ v = .string ⟨(hex (l.take k)).toArray⟩ ∧ Drawn W wr) (fun _ i _ => l.length - (intOf i).toNat)
  case atStart => exact ⟨0, Nat.zero_le _, rfl, rfl, Drawn.refl _⟩
  case round =>
    obtain ⟨k, hk, rfl, rfl, hd⟩ := hrel
    by_cases hlt : k < l.length
    · obtain ⟨bl, off, rfl, _, hcell⟩ := (hA.below (hd.below W.heap.size) (Nat.le_refl _)).at_ hlt
      have hr := byteAt_range l k
      have HS := Lib.hid (hex_step l k hlt)
      have hlen : (hex (l.take k)).length = 2 * k := by rw [hex_length, List.length_take]; omega
      obtain ⟨st, hst⟩ : ∃ st : ByteArray, st = ⟨(hex (l.take k)).toArray⟩ := ⟨_, rfl⟩
      have hss : st.size = 2 * k := by rw [hst]; show (hex (l.take k)).toArray.size = _; rw [List.size_toArray, hlen]
      rw [← hst]
      have HST := Lib.hid hst
      clear hst hlen
      obtain ⟨e1, e2, h16, h16'⟩ := hilo l k
      have hlt' : (k : Int) < (l.length : Int) := by omega
      have d1 : ({ data := #[48, 49, 50, 51, 52, 53, 54, 55, 56, 57, 97, 98, 99, 100, 101, 102] } : ByteArray).extract (hiN l k) (hiN l k + 1) = ⟨#[dg (hiN l k)]⟩ := dig_cut _ h16
      have d2 : ({ data := #[48, 49, 50, 51, 52, 53, 54, 55, 56, 57, 97, 98, 99, 100, 101, 102] } : ByteArray).extract (loN l k) (loN l k + 1) = ⟨#[dg (loN l k)]⟩ := dig_cut _ h16'
      have i1 : (hiN l k : Int) < 16 := by omega
      have i2 : (loN l k : Int) < 16 := by omega
      go_wp2_with fail
      go_quiet (fail)
      go_wp2_with fail
      go_quiet (fail)
      go_wp2_with fail
      go_roundw
      case rel => exact ⟨k + 1, hlt, by go_num, by rw [HS.out, HST.out, hx8_eq]; exact congrArg Value.string (ba_app _ _ _), hd.step _⟩
      case measure => simp [intOf]; omega
    · obtain rfl : k = l.length := by omega
      have hkl : hex (l.take l.length) = hex l := by rw [List.take_length]
      rw [hkl]
      clear hkl
      go_wp2_with fail
      go_ret
      exact ⟨rfl, hd⟩
end Go.Proofs.Ytknpengboappiaa.Oct
