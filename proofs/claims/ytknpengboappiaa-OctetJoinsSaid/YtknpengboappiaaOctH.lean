/- Layer 1 (octet): what the reference's Unhex computes. -/
import Derived.Test.YtknpengboappiaaOctG
namespace Go.Proofs.Ytknpengboappiaa.Oct
open Go.RowKit Go.Proofs.Ytknpengboappiaa.Mem

theorem quiet_same {P : Program} {f : FuncId} {args : Array Value} {w : World} {n : Nat} {v : Value}
    (h : Calls P f args (w.drewN n) fun e w' => e = .returned v ∧ w.drewN n = w') : Calls P f args (w.drewN n) fun e w'' => e = .returned v ∧ ∃ m, w'' = w.drewN m :=
  h.mono fun _ _ ⟨he, hm⟩ => ⟨he, n, hm.symm⟩

theorem good_val (a : UInt8) : good a = decide (0 ≤ hval a.toNat) := rfl
theorem hval_le (n : Int) : hval n ≤ 15 ∧ -1 ≤ hval n := by
  unfold hval
  repeat' split
  all_goals omega

theorem digit_p (n p : Int) (hp : p = hval n) (W : World) : Calls Try.prog 43 #[.int .u8 n] W fun e W' => e = .returned (.int .i64 p) ∧ W = W' := by
  rw [hp]; exact digit_any n W

set_option maxHeartbeats 1000000 in
theorem refUnhex_any (t : List UInt8) (W : World) (hl : t.length ≤ 140737488355328) :
    Calls Try.prog 36 #[.string ⟨t.toArray⟩] W (GivesO W (unh t)) := by
  obtain ⟨s, hs⟩ : ∃ s : ByteArray, s = ⟨t.toArray⟩ := ⟨_, rfl⟩
  rw [← hs]
  have hsz := str_size hs
  have HS := Lib.hid hs
  clear hs
  by_cases hodd : t.length % 2 = 1
  · have HN := Lib.hid (unh_odd t hodd)
    have h1 : ((s.size : Int) % 2 != 0) = true := by rw [bne_iff_ne]; omega
    clear hsz
    go_enter Try.func36, Try.ntmps36
    go_wp2_with fail
    go_ret2
    exact gives_none HN.out (Below.refl _ _)
  · have h1 : ((s.size : Int) % 2 != 0) = false := by
      rw [bne_eq_false_iff_eq]; omega
    have hsl : s.size ≤ 140737488355328 := by omega
    have HZ := Lib.hid hsz
    clear hsz hl
    go_enter Try.func36, Try.ntmps36
    go_wp2_with fail
    go_loopw [4, 5] (fun v i wr => ∃ (k : Nat) (acc : List UInt8), k ≤ s.size ∧ k = 2 * acc.length ∧ i = .int .i64 k ∧ Own 5 wr W.heap.size v acc ∧ Hid (Left t acc k) ∧ Below W.heap.size W wr) (fun _ i _ => s.size - (intOf i).toNat)
    case atStart => exact ⟨0, [], Nat.zero_le _, rfl, rfl, Own.nil _ _ _, Lib.hid (Left.start t), Below.refl _ _⟩
    case round =>
      obtain ⟨k, acc, hk, hka, rfl, ho, HG, hb⟩ := hrel
      have HKA := Lib.hid hka
      by_cases hlt : k < s.size
      · have hz := HZ.out
        have hlt2 : k + 1 < s.size := by omega
        have hlen : acc.length + 1 ≤ 140737488355328 := by omega
        clear hka hz
        have c1 := str_at HS.out k hlt
        have c2 := str_at HS.out (k + 1) hlt2
        have hk1 : k + 1 < t.length := by have := HZ.out; omega
        have i1 : (k : Int) < (s.size : Int) := by omega
        have i2 : (k : Int) + 1 < (s.size : Int) := by omega
        obtain ⟨p, hp⟩ : ∃ p, p = hval (byteAt t k) := ⟨_, rfl⟩
        obtain ⟨q, hq⟩ : ∃ q, q = hval (byteAt t (k + 1)) := ⟨_, rfl⟩
        have p1 := hval_le (byteAt t k)
        have q1 := hval_le (byteAt t (k + 1))
        rw [← hp] at p1
        rw [← hq] at q1
        obtain ⟨p1, p2⟩ := p1
        obtain ⟨q1, q2⟩ := q1
        have hpq : (good (nth8 t k) && good (nth8 t (k + 1))) = (decide (0 ≤ p) && decide (0 ≤ q)) := by rw [hp, hq]; rfl
        have HP := Lib.hid hp
        have HQ := Lib.hid hq
        have hsz := hb.size
        clear hp hq
        by_cases g1 : p < 0
        · have HN := Lib.hid (HG.out.bad hk1 (by rw [hpq, Bool.and_eq_false_iff]; left; simp; omega))
          clear hpq
          go_wp2_with fail
          go_quiet ((first | (go_at_call_of 43 (byteAt t k); exact quiet_same (digit_p _ p HP.out _)) | (go_at_call 43; exact quiet_same (digit_p (byteAt t (k + 1)) q HQ.out _))))
          go_wp2_with fail
          go_ret2
          exact gives_none HN.out (below_drewN hb _)
        · by_cases g2 : q < 0
          · have HN := Lib.hid (HG.out.bad hk1 (by rw [hpq, Bool.and_eq_false_iff]; right; simp; omega))
            clear hpq
            go_wp2_with fail
            go_quiet ((first | (go_at_call_of 43 (byteAt t k); exact quiet_same (digit_p _ p HP.out _)) | (go_at_call 43; exact quiet_same (digit_p (byteAt t (k + 1)) q HQ.out _))))
            go_wp2_with fail
            go_ret2
            exact gives_none HN.out (below_drewN hb _)
          · have HN := Lib.hid (HG.out.step hk1 (by rw [hpq, Bool.and_eq_true_iff]; constructor <;> simp <;> omega))
            have k1 : good (nth8 t k) = true := by rw [good_val]; have := HP.out; simp only [decide_eq_true_eq]; exact (show 0 ≤ hval (byteAt t k) by omega)
            have k2 : good (nth8 t (k + 1)) = true := by rw [good_val]; have := HQ.out; simp only [decide_eq_true_eq]; exact (show 0 ≤ hval (byteAt t (k + 1)) by omega)
            have htv := two_val k1 k2
            rw [hv_good k1, hv_good k2] at htv
            have htv2 : 16 * p + q = ((two (nth8 t k) (nth8 t (k + 1))).toNat : Int) := by rw [HP.out, HQ.out]; exact htv.symm
            have H16 := Lib.hid htv2
            have hle : 16 * p + q ≤ 255 := by omega
            have hge : 0 ≤ 16 * p + q := by omega
            clear hpq htv htv2 k1 k2
            go_wp2_with fail
            go_quiet ((first | (go_at_call_of 43 (byteAt t k); exact quiet_same (digit_p _ p HP.out _)) | (go_at_call 43; exact quiet_same (digit_p (byteAt t (k + 1)) q HQ.out _))))
            have ho2 : Own 5 (wr.drewN nq) W.heap.size _ acc := ho
            have hb2 := below_drewN hb nq
            have hsz2 := hb2.size
            clear ho hb hsz
            generalize wr.drewN nq = w2 at *
            go_wp2_with (at_builtin; refine wpList_app_lit _ rfl _ _ 22 rfl 5 Try.underlying22 infoU8 W.heap.size _ acc rfl ho2 [two (nth8 t k) (nth8 t (k + 1))] 1 1 _ (by rw [H16.out]; rfl) rfl rfl hsz2 hlen ?_)
            intro v3 w3 ho3 hg3
            have hb3 := ho2.grown hb2 hg3 (Nat.le_refl _) (Nat.le_refl _)
            clear hg3 ho2 hb2
            go_wp2_with fail
            go_roundw
            case rel => exact ⟨k + 2, _, by omega, by have := HKA.out; simp; omega, by go_num, ho3, HN, hb3⟩
            case measure => simp [intOf]; omega
      · have hke : k = t.length := by have := HZ.out; omega
        have hL := HG.out
        rw [hke] at hL
        have HE := Lib.hid hL.ends
        clear hL hke hka
        go_wp2_with fail
        go_ret2
        exact gives_some HE.out ho hb
end Go.Proofs.Ytknpengboappiaa.Oct
