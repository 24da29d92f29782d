
/- Layer 48 (tune): the document's All; the law on all settings. -/
import Derived.Test.YtcbjimcnbdkaoaaTuneC
namespace Go.Proofs.Ytcbjimcnbdkaoaa.Tune
open Go.RowKit Go.Proofs.Ytcbjimcnbdkaoaa.Ring Go.ChangeShapes Go.WideShapes

theorem done1 {m : Int} {k i n : Nat} (hi : i ≤ cnt m ((k : Int) + 1)) (h : ((full m k ++ rowK ((k : Int) + 1) i).take n).length = n) : (full m k ++ rowK ((k : Int) + 1) i).take n = (full m (k + 1)).take n := by
  obtain ⟨r, hr⟩ := rowK_prefix ((k : Int) + 1) hi
  show _ = (full m k ++ rowK ((k : Int) + 1) (cnt m ((k : Int) + 1))).take n
  rw [hr, ← List.append_assoc (full m k), take_more h]
theorem cnt_le (m w : Int) (_h : 1 ≤ w) : (cnt m w : Int) ≤ 4097 - w ∨ cnt m w = 0 := by
  unfold cnt
  split
  · have := lng_le w m
    omega
  · exact .inr rfl

set_option maxHeartbeats 4000000 in
theorem refAll_any (m n : Int) (W : World) : Calls Try.prog 29 #[.int .i64 m, .int .i64 n] W (GivesC W m (allK m n)) := by
  by_cases hn : 1 ≤ n ∧ n ≤ 1000
  · obtain ⟨N, rfl⟩ : ∃ N : Nat, n = N := ⟨n.toNat, by omega⟩
    obtain ⟨h1, h2⟩ := hn
    have HY := Lib.hid (fun (ls : List Pr) (v : Value) (w' : World) => @gives_all W w' m N ls v (by omega) (by omega))
    have hg1 : ¬ ((N : Int) < 1) := by omega
    have hg2 : ¬ (1000 < (N : Int)) := by omega
    have HN := Lib.hid (show N ≤ 1000 by omega)
    clear h1 h2
    go_enter Try.func29, Try.ntmps29
    go_wp2_with fail
    go_loopw [5, 6] (fun v i wr => ∃ k : Nat, k ≤ 64 ∧ i = .int .i64 ((k : Int) + 1) ∧ OwnC wr W.heap.size v m ((full m k).take N) ∧ Below W.heap.size W wr) (fun _ i _ => 65 - (intOf i).toNat)
    case atStart => exact ⟨0, by omega, rfl, by simpa [full] using OwnC.nil W W.heap.size m, Below.refl _ _⟩
    case round =>
      obtain ⟨k, hk, rfl, ho, hb⟩ := hrel
      have HO := Lib.hid ho
      have HB := Lib.hid hb
      obtain ⟨A, ln, cap, rfl, hcp⟩ := ho.shape
      clear ho hb hcp
      by_cases hlt : k < 64
      · have hk64 : (k : Int) + 1 ≤ 64 := by omega
        have HC := Lib.hid (cnt_le m ((k : Int) + 1) (by omega))
        go_wp2_with fail
        go_loopw [5, 7] (fun v l wr => ∃ i : Nat, (k : Int) + 1 + (i : Int) ≤ 4097 ∧ l = .int .i64 ((k : Int) + 1 + (i : Int)) ∧ OwnC wr W.heap.size v m ((full m k ++ rowK ((k : Int) + 1) (min i (cnt m ((k : Int) + 1)))).take N) ∧ Below W.heap.size W wr) (fun _ l _ => 5000 - (intOf l).toNat)
        case atStart => exact ⟨0, by omega, by simp, by simpa [rowK] using HO.out, HB.out⟩
        case round =>
          obtain ⟨i, hi, rfl, ho, hb⟩ := hrel
          have HO := Lib.hid ho
          have HB := Lib.hid hb
          obtain ⟨A, ln, cap, rfl, hcp⟩ := ho.shape
          have hln : ((full m k ++ rowK ((k : Int) + 1) (min i (cnt m ((k : Int) + 1)))).take N).length ≤ N := by rw [List.length_take]; omega
          by_cases hle : (k : Int) + 1 + (i : Int) ≤ 4096
          · by_cases hfull : ln < N
            · have hf : (ln : Int) < (N : Int) := by omega
              by_cases hit : i < cnt m ((k : Int) + 1)
              · have HT := Lib.hid (take_snoc_lt (x := ((k : Int) + 1, (k : Int) + 1 + (i : Int))) (show ((full m k ++ rowK ((k : Int) + 1) (min i (cnt m ((k : Int) + 1)))).take N).length < N by omega))
                have HLN := Lib.hid (show ((full m k ++ rowK ((k : Int) + 1) (min i (cnt m ((k : Int) + 1)))).take N).length ≤ 1000 by have := HN.out; omega)
                have HM1 := Lib.hid (show min i (cnt m ((k : Int) + 1)) = i by omega)
                have HM2 := Lib.hid (show min (i + 1) (cnt m ((k : Int) + 1)) = i + 1 by omega)
                have HCH := Lib.hid ((check_cnt (m := m) (i := i) (show 1 ≤ (k : Int) + 1 by omega)).2 hit)
                have hsz := hb.size
                clear hln hfull hcp hit
                go_wp2_with (first
                  | (go_at_call 12; refine (refCheck_any _ _ _ _).mono ?_; rw [HCH.out]; rintro e w' ⟨rfl, rfl⟩)
                  | (at_builtin; refine wpList_app_cfg _ rfl _ _ rfl W.heap.size _ m _ rfl ho ((k : Int) + 1, (k : Int) + 1 + (i : Int)) _ _ (by rfl) rfl hsz HLN.out ?_))
                intro v' w' ho' hg
                have hb' := ho.grown hb hg (Nat.le_refl _) (Nat.le_refl _)
                rw [← HT.out, HM1.out, List.append_assoc, ← rowK_succ] at ho'
                clear hg ho hb
                go_wp2_with fail
                go_roundw
                case rel => exact ⟨i + 1, by omega, by go_num, by rw [HM2.out]; exact ho', hb'⟩
                case measure => simp [intOf]; omega
              · have HM2 := Lib.hid (show min (i + 1) (cnt m ((k : Int) + 1)) = min i (cnt m ((k : Int) + 1)) by omega)
                have hne : (check ((k : Int) + 1) m ((k : Int) + 1 + (i : Int)) == 0) = false := by
                  rw [beq_eq_false_iff_ne]
                  intro h
                  exact hit ((check_cnt (m := m) (i := i) (show 1 ≤ (k : Int) + 1 by omega)).1 h)
                clear hln hfull hcp hit ho hb
                go_wp2_with (go_at_call 12; refine (refCheck_any _ _ _ _).mono ?_; rintro e w' ⟨rfl, rfl⟩)
                go_roundw
                case rel => exact ⟨i + 1, by omega, by go_num, by rw [HM2.out]; exact HO.out, HB.out⟩
                case measure => simp [intOf]; omega
            · have HD := Lib.hid (done1 (m := m) (k := k) (i := min i (cnt m ((k : Int) + 1))) (n := N) (by omega) (by omega))
              have hf : ¬ ((ln : Int) < (N : Int)) := by omega
              clear hln hfull hcp ho hb
              go_wp2_with fail
              go_roundw
              case rel => exact ⟨k + 1, by omega, by go_num, by rw [← HD.out]; exact HO.out, HB.out⟩
              case measure => simp [intOf]; omega
          · have HM := Lib.hid (show min i (cnt m ((k : Int) + 1)) = cnt m ((k : Int) + 1) by have := HC.out; omega)
            clear hln hcp ho hb
            go_wp2_with fail
            go_roundw
            case rel => exact ⟨k + 1, by omega, by go_num, by have h := HO.out; rw [HM.out] at h; exact h, HB.out⟩
            case measure => simp [intOf]; omega
      · obtain rfl : k = 64 := by omega
        go_wp2_with fail
        go_ret
        exact HY.out _ _ _ rfl HO.out HB.out
  · have HY := Lib.hid (fun W => @gives_nil W m n hn)
    have hx : n < 1 ∨ (¬ n < 1 ∧ 1000 < n) := by omega
    clear hn
    rcases hx with hx | ⟨hx, hy⟩
    all_goals (
      go_enter Try.func29, Try.ntmps29
      go_wp2
      go_ret
      exact HY.out _)
end Go.Proofs.Ytcbjimcnbdkaoaa.Tune
