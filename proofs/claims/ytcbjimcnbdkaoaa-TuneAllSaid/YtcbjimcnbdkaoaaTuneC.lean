
/- Layer 48 (tune): All, and the document's All. -/
import Derived.Test.YtcbjimcnbdkaoaaTuneB
import Derived.Deep.LoopGhost
import Derived.WalkMore
namespace Go.Proofs.Ytcbjimcnbdkaoaa.Tune
open Go.RowKit Go.Proofs.Ytcbjimcnbdkaoaa.Ring Go.ChangeShapes Go.WideShapes

def GivesC (w : World) (m : Int) (ls : List Pr) (e : Ending) (w' : World) : Prop := ∃ v, e = .returned v ∧ OwnC w' w.heap.size v m ls ∧ Below w.heap.size w w'
theorem gives_nil {w : World} {m n : Int} (h : ¬ (1 ≤ n ∧ n ≤ 1000)) : GivesC w m (allK m n) (.returned (.slice none 0 0)) w := by
  unfold allK
  rw [if_neg h]
  exact ⟨_, rfl, OwnC.nil _ _ _, Below.refl _ _⟩
theorem gives_all {w w' : World} {m : Int} {N : Nat} {ls : List Pr} {v : Value} (h1 : 1 ≤ N) (h2 : N ≤ 1000) (hl : ls = (full m 64).take N) (ho : OwnC w' w.heap.size v m ls) (hb : Below w.heap.size w w') : GivesC w m (allK m N) (.returned v) w' := by
  subst hl
  unfold allK
  rw [if_pos (by omega)]
  exact ⟨v, rfl, ho, hb⟩

set_option maxHeartbeats 4000000 in
theorem All_any (m n : Int) (W : World) : Calls Try.prog 28 #[.int .i64 m, .int .i64 n] W (GivesC W m (allK m n)) := by
  by_cases hn : 1 ≤ n ∧ n ≤ 1000
  · obtain ⟨N, rfl⟩ : ∃ N : Nat, n = N := ⟨n.toNat, by omega⟩
    obtain ⟨h1, h2⟩ := hn
    have HY := Lib.hid (fun (ls : List Pr) (v : Value) (w' : World) => @gives_all W w' m N ls v (by omega) (by omega))
    have hg1 : ¬ ((N : Int) < 1) := by omega
    have hg2 : ¬ (1000 < (N : Int)) := by omega
    have HN := Lib.hid (show N ≤ 1000 by omega)
    have HN0 := Lib.hid (show 1 ≤ N by omega)
    clear h1 h2
    go_enter Try.func28, Try.ntmps28
    go_wp2
    go_step3
    go_wp2
    go_step3
    go_wp2
    go_loopg [5, 6] 65 (fun g v i wr => ∃ k : Nat, k + g = 65 ∧ k ≤ 64 ∧ i = .int .i64 ((k : Int) + 1) ∧ OwnC wr W.heap.size v m ((full m k).take N) ∧ Below W.heap.size W wr)
    case atStart => exact ⟨0, by omega, by omega, rfl, by simpa [full] using OwnC.nil W W.heap.size m, Below.refl _ _⟩
    case round =>
      obtain ⟨k, hkg, hk, rfl, ho, hb⟩ := hrel
      obtain ⟨g, rfl⟩ : ∃ g, gk = g + 1 := ⟨gk - 1, by omega⟩
      have HO := Lib.hid ho
      have HB := Lib.hid hb
      obtain ⟨A, ln, cap, rfl, hcp⟩ := ho.shape
      clear ho hb hcp
      by_cases hlt : k < 64
      · have hk64 : (k : Int) + 1 ≤ 64 := by omega
        cases hg : okG ((k : Int) + 1) m with
        | false =>
          obtain ⟨g1, g2⟩ := okG_no hg
          have HF := Lib.hid (show full m (k + 1) = full m k by show full m k ++ rowK _ (cnt m _) = _; unfold cnt; rw [if_neg (by rw [hg]; decide)]; simp [rowK])
          have G1 := Lib.hid g1
          have G2 := Lib.hid g2
          clear g1 g2 hg
          go_wp2_with (go_at_call 24; refine (Longest_any _ _ _).mono ?_; rw [G1.out, G2.out]; rintro e w' ⟨rfl, rfl⟩)
          go_roundg g
          case measure => omega
          case rel => exact ⟨k + 1, by omega, by omega, by go_num, by rw [HF.out]; exact HO.out, HB.out⟩
        | true =>
          obtain ⟨g1, g2⟩ := okG_yes hg
          have HC := Lib.hid (show (cnt m ((k : Int) + 1) : Int) = lng ((k : Int) + 1) m - ((k : Int) + 1) + 1 by
            unfold cnt; rw [if_pos hg]; unfold okG at hg; simp only [decide_eq_true_eq] at hg; omega)
          have G1 := Lib.hid g1
          have G2 := Lib.hid g2
          have hlg := lng_le ((k : Int) + 1) m
          have hlg1 : 1 ≤ lng ((k : Int) + 1) m := by unfold okG at hg; simp only [decide_eq_true_eq] at hg; omega
          have HCC := Lib.hid (show cnt m ((k : Int) + 1) ≤ 4096 by have := HC.out; omega)
          clear g1 g2 hg
          obtain ⟨tp, htp⟩ : ∃ tp, tp = lng ((k : Int) + 1) m := ⟨_, rfl⟩
          rw [← htp] at HC G1 hlg hlg1
          clear htp
          go_wp2_with (go_at_call 24; refine (Longest_any _ _ _).mono ?_; rw [G1.out, G2.out]; rintro e w' ⟨rfl, rfl⟩)
          go_loopg [5, 9] (cnt m ((k : Int) + 1) + 1) (fun q v l wr => ∃ i : Nat, i + q = cnt m ((k : Int) + 1) + 1 ∧ i ≤ cnt m ((k : Int) + 1) ∧ l = .int .i64 ((k : Int) + 1 + (i : Int)) ∧ OwnC wr W.heap.size v m ((full m k ++ rowK ((k : Int) + 1) i).take N) ∧ Below W.heap.size W wr)
          case atStart => exact ⟨0, by omega, by omega, by simp, by simpa [rowK] using HO.out, HB.out⟩
          case round =>
            obtain ⟨i, hiq, hi, rfl, ho, hb⟩ := hrel
            obtain ⟨q, rfl⟩ : ∃ q, gk = q + 1 := ⟨gk - 1, by omega⟩
            have HO := Lib.hid ho
            have HB := Lib.hid hb
            obtain ⟨A, ln, cap, rfl, hcp⟩ := ho.shape
            have hln : ((full m k ++ rowK ((k : Int) + 1) i).take N).length ≤ N := by rw [List.length_take]; omega
            have HLL := Lib.hid hcp
            by_cases hit : i < cnt m ((k : Int) + 1)
            · have hle : (k : Int) + 1 + (i : Int) ≤ tp := by have := HC.out; omega
              by_cases hfull : ((full m k ++ rowK ((k : Int) + 1) i).take N).length = N
              · have HD := Lib.hid (done hlt hi hfull)
                rw [hcp] at hfull
                subst hfull
                clear hcp ho hb hln
                go_wp2_with fail
                try rw [Exit.noGoto_ret]
                go_ret
                exact HY.out _ _ _ HD.out HO.out HB.out
              · have HT := Lib.hid (take_snoc_lt (x := ((k : Int) + 1, (k : Int) + 1 + (i : Int))) (show ((full m k ++ rowK ((k : Int) + 1) i).take N).length < N by omega))
                have HLN := Lib.hid (show ((full m k ++ rowK ((k : Int) + 1) i).take N).length ≤ 1000 by have := HN.out; omega)
                have hne : ¬ ((ln : Int) = (N : Int)) := by omega
                have hsz := hb.size
                have HI := Lib.hid hi
                clear hln hfull hi hcp
                go_wp2_with (at_builtin; refine wpList_app_cfg _ rfl _ _ rfl W.heap.size _ m _ rfl ho ((k : Int) + 1, (k : Int) + 1 + (i : Int)) _ _ (by rfl) rfl hsz HLN.out ?_)
                intro v' w' ho' hg
                have hb' := ho.grown hb hg (Nat.le_refl _) (Nat.le_refl _)
                rw [← HT.out, List.append_assoc, ← rowK_succ] at ho'
                clear hg ho hb
                go_wp2_with fail
                go_roundg q
                case measure => omega
                case rel => exact ⟨i + 1, by omega, by have := HI.out; omega, by go_num, ho', hb'⟩
            · obtain rfl : i = cnt m ((k : Int) + 1) := by omega
              have hle : ¬ ((k : Int) + 1 + (cnt m ((k : Int) + 1) : Int) ≤ tp) := by have := HC.out; omega
              clear ho hb hln hi hit hcp
              go_wp2_with fail
              go_roundg g
              case measure => omega
              case rel => exact ⟨k + 1, by omega, by omega, by go_num, HO.out, HB.out⟩
      · obtain rfl : k = 64 := by omega
        go_wp2_with fail
        go_ret
        exact HY.out _ _ _ rfl HO.out HB.out
  · have HY := Lib.hid (fun W => @gives_nil W m n hn)
    have hx : n < 1 ∨ (¬ n < 1 ∧ 1000 < n) := by omega
    clear hn
    rcases hx with hx | ⟨hx, hy⟩
    all_goals (
      go_enter Try.func28, Try.ntmps28
      go_wp2
      go_step3
      go_wp2
      rw [Exit.noGoto_ret]
      go_ret
      exact HY.out _)
end Go.Proofs.Ytcbjimcnbdkaoaa.Tune
