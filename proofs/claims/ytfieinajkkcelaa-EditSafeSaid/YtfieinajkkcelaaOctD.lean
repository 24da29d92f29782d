
/- Layer 1 (octet): what Join and its reference compute. -/
import Derived.Test.YtfieinajkkcelaaOctC
namespace Go.Proofs.Ytfieinajkkcelaa.Oct
open Go.RowKit Go.Proofs.Ytfieinajkkcelaa.Mem

set_option maxHeartbeats 1000000 in
theorem Join_any (A : Option Addr) (cap : Nat) (ls : List (List UInt8)) (W : World) (hA : Texts W W.heap.size A ls) (hn : ls.length ≤ 140737488355328) (hl : ls.flatten.length ≤ 140737488355328) :
    Calls Try.prog 52 #[.slice A ls.length cap] W (Gives W ls.flatten) := by
  have hl : tot ls ls.length ≤ 140737488355328 := by unfold tot; rw [flat_all]; exact hl
  obtain ⟨i0, hi, hz0, hz1, hz2⟩ := info_parts infoU8
  go_enter Try.func52, Try.ntmps52
  go_wp2_with fail
  go_loop [3, 11] (fun s i => ∃ k : Nat, k ≤ ls.length ∧ i = .int .i64 k ∧ s = .int .i64 (tot ls k)) (fun _ i => ls.length - (intOf i).toNat)
  case atStart => exact ⟨0, Nat.zero_le _, rfl, rfl⟩
  case round =>
    obtain ⟨k, hk, rfl, rfl⟩ := hrel
    by_cases hlt : k < ls.length
    · obtain ⟨b, off, Ai, ci, rfl, _, hc, _, _, _⟩ := hA.at_ hlt
      have hle := tot_le ls (k + 1)
      have hs := tot_next ls k hlt
      rw [hs] at hle
      have HS := Lib.hid hs
      clear hs
      go_wp2_with fail
      go_round
      case rel => exact ⟨k + 1, by omega, by go_num, by rw [HS.out]; go_num⟩
      case measure => simp [intOf]; omega
    · obtain rfl : k = ls.length := by omega
      clear hlt hk
      go_wp2_with (at_make; refine wpList_make_own _ rfl _ _ 22 rfl W.heap.size 5 i0 (.int .u8 0) 1 Try.underlying22 hi hz0 hz1 _ _ _ (tot ls ls.length) rfl rfl rfl (by rw [hz2]; omega) (by unfold maxLen; omega) (Nat.le_refl _) ?_)
      intro w1 hown hgrow
      have hO := own_made0 hown
      have hB := (Below.refl W.heap.size W).grown hgrow (Nat.le_refl _) (fun k hk => by cases hk)
      clear hown hgrow hi hz0 hz1 hz2
      go_wp2_with fail
      go_loopw [6, 24] (fun v i wr => ∃ k : Nat, k ≤ ls.length ∧ i = .int .i64 k ∧ Own 5 wr W.heap.size v (flat ls k) ∧ Below W.heap.size W wr) (fun _ i _ => ls.length - (intOf i).toNat)
      case atStart => exact ⟨0, Nat.zero_le _, rfl, hO, hB⟩
      case round =>
        obtain ⟨k, hk, rfl, ho, hb⟩ := hrel
        by_cases hlt : k < ls.length
        · obtain ⟨b, off, Ai, ci, rfl, _, hc, hci, _, hby⟩ := (hA.below hb (Nat.le_refl _)).at_ hlt
          have hle := tot_le ls (k + 1)
          rw [tot_next ls k hlt] at hle
          have HLE := Lib.hid (Nat.le_trans hle hl)
          have HS := Lib.hid (flat_next ls k hlt)
          have hsz := hb.size
          go_wp2_with (at_builtin; refine wpList_app _ rfl _ _ 22 rfl 5 Try.underlying22 infoU8 W.heap.size _ _ rfl ho W.heap.size Ai _ ci (nthT ls k) rfl rfl hby hsz HLE.out ?_)
          intro v' w' ho' hg
          have hb' := ho.grown hb hg (Nat.le_refl _) (Nat.le_refl _)
          clear hg ho hb hby
          go_wp2_with fail
          go_roundw
          case rel => exact ⟨k + 1, hlt, by go_num, by rw [HS.out]; exact ho', hb'⟩
          case measure => simp [intOf]; omega
        · obtain rfl : k = ls.length := by omega
          have HK := Lib.hid (flat_all ls)
          go_wp2_with fail
          go_ret
          exact ⟨_, rfl, (congrArg (Own _ wr W.heap.size _) HK.out).mp ho, hb⟩

end Go.Proofs.Ytfieinajkkcelaa.Oct
