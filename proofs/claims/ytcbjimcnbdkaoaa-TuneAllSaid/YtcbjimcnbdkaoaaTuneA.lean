
/- Layer 48 (tune): how many bits a number needs. -/
import Derived.Test.YtcbjimcnbdkaoaaTune
import Derived.Test.YtcbjimcnbdkaoaaTuneL
namespace Go.Proofs.Ytcbjimcnbdkaoaa.Tune
open Go.RowKit Go.Proofs.Ytcbjimcnbdkaoaa.Ring

def bitsV (m : Int) : Int := if 1 ≤ m ∧ m ≤ 65536 then (Lib.bitLen (m.toNat - 1) : Int) else 0

theorem bitLen_of : ∀ (n x : Nat), n < 60 → x < 2 ^ n → (n = 0 ∨ 2 ^ (n - 1) ≤ x) → Lib.bitLen x = n
  | 0, x, _, hx, _ => by
    have : x = 0 := by simpa using hx
    subst this
    rfl
  | n + 1, x, hn, hx, hl => by
    have hp : 0 < 2 ^ n := Nat.two_pow_pos n
    have hl' : 2 ^ n ≤ x := by simpa using hl
    have h64 : x < 2 ^ 64 := Nat.lt_of_lt_of_le hx (Nat.pow_le_pow_right (by decide) (by omega))
    rw [Nat.pow_succ] at hx
    rw [Lib.bitLen_half x (by omega) h64, bitLen_of n (x / 2) (by omega) (by omega) ?_]
    · omega
    · rcases Nat.eq_zero_or_pos n with h0 | h0
      · exact .inl h0
      · right
        obtain ⟨k, rfl⟩ : ∃ k, n = k + 1 := ⟨n - 1, by omega⟩
        rw [Nat.pow_succ] at hl'
        simp only [Nat.add_sub_cancel]
        omega

theorem Bits_any (m : Int) (W : World) : Calls Try.prog 30 #[.int .i64 m] W fun e W' => e = .returned (.int .i64 (bitsV m)) ∧ W = W' := by
  by_cases h : 1 ≤ m ∧ m ≤ 65536
  · have HV := Lib.hid (show bitsV m = (Lib.bitLen (m.toNat - 1) : Int) from if_pos h)
    obtain ⟨h1, h2⟩ := h
    go_enter Try.func30, Try.ntmps30
    go_wp2_with (go_at_call 35; refine (Len_any (m - 1) _ (by omega) (by omega)).mono ?_; rw [show (m - 1).toNat = m.toNat - 1 by omega]; rintro e w' ⟨rfl, rfl⟩)
    go_ret
    exact ⟨by rw [HV.out]; rfl, rfl⟩
  · have HV := Lib.hid (show bitsV m = 0 from if_neg h)
    have hx : m < 1 ∨ (¬ m < 1 ∧ 65536 < m) := by omega
    clear h
    rcases hx with hx | ⟨hx, hy⟩
    all_goals (
      go_enter Try.func30, Try.ntmps30
      go_wp2
      go_ret
      exact ⟨by rw [HV.out]; rfl, rfl⟩)

set_option maxHeartbeats 2000000 in
theorem refBits_any (m : Int) (W : World) : Calls Try.prog 31 #[.int .i64 m] W fun e W' => e = .returned (.int .i64 (bitsV m)) ∧ W = W' := by
  by_cases h : 1 ≤ m ∧ m ≤ 65536
  · have HV := Lib.hid (show bitsV m = (Lib.bitLen (m.toNat - 1) : Int) from if_pos h)
    obtain ⟨h1, h2⟩ := h
    go_enter Try.func31, Try.ntmps31
    go_wp2
    go_loop [3, 4] (fun n p => ∃ k q : Nat, n = .int .i64 k ∧ p = .int .i64 q ∧ k ≤ 16 ∧ q ≤ 65536 ∧ Hid (q = 2 ^ k ∧ (k = 0 ∨ 2 ^ (k - 1) < m.toNat))) (fun n p => (65536 - intOf p).toNat)
    case atStart => exact ⟨0, 1, rfl, rfl, by omega, by omega, Lib.hid ⟨rfl, .inl rfl⟩⟩
    case round =>
      obtain ⟨k, q, rfl, rfl, hk, hq, HK⟩ := hrel
      by_cases hlt : (q : Int) < m
      · have hk16 : k < 16 := by
          rcases Nat.lt_or_ge k 16 with h | h
          · exact h
          · exfalso
            have e := HK.out.1
            have : k = 16 := by omega
            subst this
            omega
        have hq2 : q * 2 ≤ 65536 ∧ 1 ≤ q := by
          have e := HK.out.1
          have e15 : 2 ^ k ≤ 2 ^ 15 := Nat.pow_le_pow_right (by decide) (by omega)
          have e0 := Nat.two_pow_pos k
          omega
        have HN := Lib.hid (show q * 2 = 2 ^ (k + 1) ∧ (k + 1 = 0 ∨ 2 ^ (k + 1 - 1) < m.toNat) by
          refine ⟨by rw [HK.out.1, Nat.pow_succ], .inr ?_⟩
          rw [Nat.add_sub_cancel, ← HK.out.1]
          omega)
        obtain ⟨hq3, hq4⟩ := hq2
        go_wp2
        go_round
        case rel => exact ⟨k + 1, q * 2, by simp, by simp; omega, by omega, by omega, HN⟩
        case measure => simp [intOf]; omega
      · have HB := Lib.hid (show (Lib.bitLen (m.toNat - 1) : Int) = k by
          have e := HK.out.1
          rw [bitLen_of k (m.toNat - 1) (by omega) (by omega) (by rcases HK.out.2 with h | h <;> omega)])
        go_wp2
        go_ret
        exact ⟨by rw [HV.out, HB.out]; rfl, rfl⟩
  · have HV := Lib.hid (show bitsV m = 0 from if_neg h)
    have hx : m < 1 ∨ (¬ m < 1 ∧ 65536 < m) := by omega
    clear h
    rcases hx with hx | ⟨hx, hy⟩
    all_goals (
      go_enter Try.func31, Try.ntmps31
      go_wp2
      go_ret
      exact ⟨by rw [HV.out]; rfl, rfl⟩)
end Go.Proofs.Ytcbjimcnbdkaoaa.Tune
