/- Layer 22 (ring): the walks of the laws RingNear and RingEnough. -/
import Derived.Test.YtcbjimcnbdkaoaaRingNear
import Derived.Handy
namespace Go.Proofs.Ytcbjimcnbdkaoaa.Ring
open Go.RowKit

theorem below_drewN {B : Nat} {a w : World} (h : Below B a w) (n : Nat) : Below B a (w.drewN n) := ⟨h.os, h.tape, h.output, h.size, h.block⟩

set_option maxHeartbeats 400000 in
theorem RingNear_any (base span seq m : Int) (W : World) :
    Calls Try.prog 4 #[.int .i64 base, .int .i64 span, .agg #[.int .i64 seq, .int .i64 m]] W fun e W' => e = .returned (.bool true) ∧ Below W.heap.size W W' := by
  by_cases hc : 3000 < span ∧ span ≤ 65536
  · obtain ⟨h1, h2⟩ := hc
    go_enter Try.func4, Try.ntmps4
    go_wp2_with (go_at_call 13; refine (live_any _).mono ?_; rintro e w' ⟨rfl, rfl⟩)
    go_ret
    exact ⟨rfl, by go_grown⟩
  · by_cases h3 : 3000 < span
    · have h4 : 65536 < span := by omega
      clear hc
      go_enter Try.func4, Try.ntmps4
      go_wp2_with (first
        | (go_at_call 13; refine (live_any _).mono ?_; rintro e w' ⟨rfl, rfl⟩)
        | (go_at_call 14; refine (Near_any _ _ _ _ _).mono ?_; rintro e w' ⟨rfl, rfl⟩)
        | (go_at_call 15; refine (refNear_any _ _ _ _ _).mono ?_; rintro e w' ⟨rfl, rfl⟩))
      go_ret
      exact ⟨rfl, by go_grown⟩
    · clear hc
      go_enter Try.func4, Try.ntmps4
      go_wp2_with (first
        | (go_at_call 13; refine (live_any _).mono ?_; rintro e w' ⟨rfl, rfl⟩)
        | (go_at_call 14; refine (Near_any _ _ _ _ _).mono ?_; rintro e w' ⟨rfl, rfl⟩)
        | (go_at_call 15; refine (refNear_any _ _ _ _ _).mono ?_; rintro e w' ⟨rfl, rfl⟩))
      go_ret
      exact ⟨rfl, by go_grown⟩

theorem check_zero {w m l : Int} (h : check w m l = 0) : 1 ≤ w ∧ w ≤ l ∧ l ≤ 4096 ∧ w ≤ 64 ∧ m ≤ 65536 ∧ 2 * (w + l) < m := by
  unfold check at h
  repeat' split at h
  all_goals first | (exfalso; omega) | omega

theorem mod_other {p q m : Int} (h1 : 1 ≤ m) (hne : q ≠ p) (ha : q - p < m) (hb : p - q < m) : (mod q m != mod p m) = true := by
  rw [bne_iff_ne]
  intro h
  have hm : ¬ m < 1 := by omega
  unfold mod at h
  rw [if_neg hm, if_neg hm] at h
  by_cases hlt : p ≤ q
  · have h' := Int.dvd_of_emod_eq_zero (Int.emod_eq_emod_iff_emod_sub_eq_zero.1 h)
    have := Int.le_of_dvd (show 0 < q - p by omega) h'
    omega
  · have h' := Int.dvd_of_emod_eq_zero (Int.emod_eq_emod_iff_emod_sub_eq_zero.1 h.symm)
    have := Int.le_of_dvd (show 0 < p - q by omega) h'
    omega

set_option maxHeartbeats 1000000 in
theorem RingEnough_any (w m l p q : Int) (wm : m ≤ 9223372036854775807) (W : World) :
    Calls Try.prog 6 #[.agg #[.int .i64 w, .int .i64 m, .int .i64 l, .int .i64 p], .int .i64 q] W fun e W' => e = .returned (.bool true) ∧ Below W.heap.size W W' := by
  obtain ⟨c, hcc⟩ : ∃ c, c = check w m l := ⟨_, rfl⟩
  by_cases hc : c = 0
  · have hz := check_zero (hcc.symm.trans hc)
    obtain ⟨h1, h2, h3, h4, h5, h6⟩ := hz
    subst hc
    have HC := Lib.hid hcc; clear hcc
    by_cases hin : 0 ≤ p ∧ p ≤ 1125899906842624 ∧ 0 ≤ q ∧ q ≠ p ∧ p - w - l ≤ q ∧ q ≤ p + 2 * w + l
    · obtain ⟨g1, g2, g3, g4, g5, g6⟩ := hin
      have hm := mod_other (p := p) (q := q) (m := m) (by omega) g4 (by omega) (by omega)
      have g4' : (q == p) = false := beq_eq_false_iff_ne.2 g4
      have g4n : ¬ q = p := g4
      clear g4
      go_enter Try.func6, Try.ntmps6
      go_wp2_with (first
        | (go_at_call 13; refine (live_any _).mono ?_; rintro e w' ⟨rfl, rfl⟩)
        | (go_at_call 11; refine (Check_any _ _ _ _).mono ?_; rw [← HC.out]; rintro e w' ⟨rfl, rfl⟩)
        | (go_at_call 17; refine (Mod_any _ _ wm _).mono ?_; rintro e w' ⟨rfl, rfl⟩)
        | (go_at_call 10; refine (num_any _ _).mono ?_; rintro e w' ⟨rfl, rfl⟩))
      go_quiet ((first | (go_at_call 17; exact quiet_same (Mod_any _ _ wm _)) | (go_at_call 13; exact quiet_same (live_any _))))
      go_wp2
      go_ret
      exact ⟨rfl, below_drewN (by go_grown) _⟩
    · go_enter Try.func6, Try.ntmps6
      go_wp2_with (first
        | (go_at_call 13; refine (live_any _).mono ?_; rintro e w' ⟨rfl, rfl⟩)
        | (go_at_call 11; refine (Check_any _ _ _ _).mono ?_; rw [← HC.out]; rintro e w' ⟨rfl, rfl⟩)
        | (go_at_call 17; refine (Mod_any _ _ wm _).mono ?_; rintro e w' ⟨rfl, rfl⟩)
        | (go_at_call 10; refine (num_any _ _).mono ?_; rintro e w' ⟨rfl, rfl⟩))
      all_goals first | (go_ret; exact ⟨rfl, by go_grown⟩) | (exfalso; omega)
  · have hc' : (c != 0) = true := by rw [bne_iff_ne]; exact hc
    have hc2 : (c == 0) = false := beq_eq_false_iff_ne.2 hc
    have HC := Lib.hid hcc; clear hcc hc
    go_enter Try.func6, Try.ntmps6
    go_wp2_with (first
      | (go_at_call 13; refine (live_any _).mono ?_; rintro e w' ⟨rfl, rfl⟩)
      | (go_at_call 11; refine (Check_any _ _ _ _).mono ?_; rw [← HC.out]; rintro e w' ⟨rfl, rfl⟩)
      | (go_at_call 10; refine (num_any _ _).mono ?_; rintro e w' ⟨rfl, rfl⟩))
    go_ret
    exact ⟨rfl, by go_grown⟩
end Go.Proofs.Ytcbjimcnbdkaoaa.Ring
