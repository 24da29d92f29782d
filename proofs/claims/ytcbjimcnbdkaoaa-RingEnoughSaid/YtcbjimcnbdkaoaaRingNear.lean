/- Layer 22 (ring): the reference's Near computes what Near computes; what the laws RingNear and RingEnough answer. -/
import Derived.Test.YtcbjimcnbdkaoaaRing
namespace Go.Proofs.Ytcbjimcnbdkaoaa.Ring
open Go.RowKit

theorem mod_ahead0 (base seq m : Int) (h2 : 0 ≤ seq) (h3 : seq < m) : (base + (seq % m - base % m) % m) % m = seq := by
  have e1 : (base + (seq % m - base % m) % m) % m = (base % m + (seq % m - base % m)) % m := by
    rw [Int.add_emod base, Int.emod_emod_of_dvd _ (Int.dvd_refl m), ← Int.emod_emod_of_dvd base (Int.dvd_refl m), ← Int.add_emod, Int.emod_emod_of_dvd _ (Int.dvd_refl m)]
  rw [e1, show base % m + (seq % m - base % m) = seq % m by omega, Int.emod_emod_of_dvd _ (Int.dvd_refl m), Int.emod_eq_of_lt h2 h3]

theorem mod_ahead (base seq m : Int) (h1 : 1 ≤ m) (h2 : 0 ≤ seq) (h3 : seq < m) : mod (base + ahead base seq m) m = seq := by
  have hm : ¬ m < 1 := by omega
  unfold ahead mod
  simp only [if_neg hm]
  exact mod_ahead0 base seq m h2 h3

theorem same_place (base k n m : Int) (hk : (base + k) % m = (base + n) % m) (hnm : n < m) (hk0 : 0 ≤ k) (hkn : k ≤ n) : k = n := by
  have h := Int.emod_eq_emod_iff_emod_sub_eq_zero.1 hk.symm
  have hd := Int.dvd_of_emod_eq_zero h
  rw [show base + n - (base + k) = n - k by omega] at hd
  by_cases e : 0 < n - k
  · have := Int.le_of_dvd e hd; omega
  · omega

theorem near_first (base seq m : Int) (k : Nat) (h1 : 1 ≤ m) (hk : mod (base + k) m = seq) (hf : ∀ j : Nat, j < k → mod (base + j) m ≠ seq) : ahead base seq m = k ∧ 0 ≤ seq ∧ seq < m := by
  have hb := mod_bd (base + k) m
  have h2 : 0 ≤ seq := by rw [← hk]; exact hb.1
  have h3 : seq < m := by rw [← hk]; exact hb.2 h1
  have ha := mod_ahead base seq m h1 h2 h3
  have hn := mod_bd (mod seq m - mod base m) m
  have hn0 : 0 ≤ ahead base seq m := hn.1
  have hnm : ahead base seq m < m := hn.2 h1
  refine ⟨?_, h2, h3⟩
  by_cases hlt : ahead base seq m < k
  · exfalso
    refine hf (ahead base seq m).toNat (by omega) ?_
    rw [show ((ahead base seq m).toNat : Int) = ahead base seq m by omega]
    exact ha
  · have hkm : ¬ m < 1 := by omega
    have e : (base + k) % m = (base + ahead base seq m) % m := by
      have := hk.trans ha.symm
      unfold mod at this
      rw [if_neg hkm, if_neg hkm] at this
      exact this
    exact (same_place base k _ m e hnm (by omega) (by omega)).symm

/-- no place below span has the number -/
def Out (base seq m : Int) (k : Nat) : Prop := ∀ j : Nat, j < k → mod (base + j) m ≠ seq
theorem Out.step {base seq m : Int} {k : Nat} (h : Out base seq m k) (hne : mod (base + k) m ≠ seq) : Out base seq m (k + 1) := by
  intro j hj
  by_cases e : j = k
  · subst e; exact hne
  · exact h j (by omega)

theorem near_found {base span seq m : Int} {k : Nat} (h0 : 0 ≤ base) (hb : base ≤ 1152921504606846976) (hs : span ≤ 65536) (h1 : 1 ≤ m) (h5 : m ≤ 65536) (hk : mod (base + k) m = seq) (hf : Out base seq m k) (hlt : (k : Int) < span) :
    nearOk base span seq m = true ∧ near base span seq m = base + k := by
  obtain ⟨a, b, c⟩ := near_first base seq m k h1 hk hf
  have f : nearOk base span seq m = true := by unfold nearOk; rw [a]; simp only [decide_eq_true_eq]; omega
  exact ⟨f, by unfold near; rw [if_pos f, a]⟩

theorem near_not {base span seq m : Int} (h1 : 1 ≤ m) (hf : Out base seq m span.toNat) : nearOk base span seq m = false ∧ near base span seq m = 0 := by
  refine nearOk_false ?_
  rintro ⟨_, _, _, _, _, _, h2, h3, h4⟩
  have hn := mod_bd (mod seq m - mod base m) m
  have hn0 : 0 ≤ ahead base seq m := hn.1
  refine hf (ahead base seq m).toNat (by omega) ?_
  rw [show ((ahead base seq m).toNat : Int) = ahead base seq m by omega]
  exact mod_ahead base seq m h1 h2 h3

set_option maxHeartbeats 400000 in
theorem refNear_any (base span seq m : Int) (W : World) :
    Calls Try.prog 15 #[.int .i64 base, .int .i64 span, .int .i64 seq, .int .i64 m] W
      fun e W' => e = .returned (.tuple #[.int .i64 (near base span seq m), .bool (nearOk base span seq m)]) ∧ W = W' := by
  by_cases hc : base < 0 ∨ 1152921504606846976 < base ∨ span < 0 ∨ 65536 < span ∨ m < 1 ∨ 65536 < m
  · have f := nearOk_false (base := base) (span := span) (seq := seq) (m := m) (by omega)
    have F := Lib.hid f; clear f
    go_enter Try.func15, Try.ntmps15
    go_wp2_with fail
    all_goals first | (go_ret2; exact ⟨ret_near F.out.2.symm F.out.1.symm, rfl⟩) | (exfalso; omega)
  have h0 : 0 ≤ base := by omega
  have h1 : base ≤ 1152921504606846976 := by omega
  have h2 : 0 ≤ span := by omega
  have h3 : span ≤ 65536 := by omega
  have h4 : 1 ≤ m := by omega
  have h5 : m ≤ 65536 := by omega
  clear hc
  go_enter Try.func15, Try.ntmps15
  go_wp2
  go_loop [10] (fun i => ∃ k : Nat, (k : Int) ≤ span ∧ i = .int .i64 k ∧ Out base seq m k) (fun i => span.toNat - (intOf i).toNat)
  case atStart => exact ⟨0, by omega, rfl, fun j hj => by omega⟩
  case round =>
    obtain ⟨k, hk, rfl, ho⟩ := hrel
    by_cases hlt : (k : Int) < span
    · by_cases he : mod (base + k) m = seq
      · obtain ⟨f1, f2⟩ := near_found h0 h1 h3 h4 h5 he ho hlt
        have F1 := Lib.hid f1; have F2 := Lib.hid f2; clear f1 f2
        have heb : (mod (base + k) m == seq) = true := beq_iff_eq.2 he
        clear he
        go_wp2_with (go_at_call 18; refine (refMod_any _ _ (by omega) _).mono ?_; rintro e w' ⟨rfl, rfl⟩)
        go_ret2
        exact ⟨ret_near F2.out.symm F1.out.symm, rfl⟩
      · have ho' := Lib.hid (ho.step he)
        have heb : (mod (base + k) m == seq) = false := beq_eq_false_iff_ne.2 he
        clear he
        go_wp2_with (go_at_call 18; refine (refMod_any _ _ (by omega) _).mono ?_; rintro e w' ⟨rfl, rfl⟩)
        go_round
        case rel => exact ⟨k + 1, by omega, by go_num, ho'.out⟩
        case measure => simp [intOf]; omega
    · have f := near_not (span := span) h4 (by rw [show span.toNat = k by omega]; exact ho)
      have F := Lib.hid f; clear f
      go_wp2
      go_ret2
      exact ⟨ret_near F.out.2.symm F.out.1.symm, rfl⟩

end Go.Proofs.Ytcbjimcnbdkaoaa.Ring
