
/- Layer 6 (edit): the greatest and the least of numbers (lines of the shelf's templates, turned). -/
import Derived.Test.YtfieinajkkcelaaEdI
import Derived.Lib.Slices
import Derived.Lib.Walk
namespace Go.Proofs.Ytfieinajkkcelaa.Ed
open Go.RowKit

set_option maxHeartbeats 2000000 in
set_option maxRecDepth 100000 in
theorem Max_any (b off n c : Nat) (zs : List Int) (w : World) (hn : 0 < n) (hz : n ≤ zs.length) (hbig : n ≤ 9223372036854775807) (hc : ∀ j, j < zs.length → w.cell? ⟨b, off + j, none⟩ = some (.int .i64 (zs.getD j 0))) :
    Calls Try.prog 45 #[.slice (some ⟨b, off, none⟩) n c] w fun e w' => e = .returned (.int .i64 (Lib.maxOf (zs.take n))) ∧ w' = w := by
  have h0 : w.cell? ⟨b, off, none⟩ = some (.int .i64 (zs.getD 0 0)) := by simpa using hc 0 (by omega)
  go_enter Try.func45, Try.ntmps45
  go_wp2
  go_loop [3, 4] (fun m i => ∃ k : Nat, 0 < k ∧ k ≤ n ∧ i = .int .i64 k ∧ m = .int .i64 (Lib.maxOf (zs.take k))) (fun _ i => match i with | .int _ q => n - q.toNat | _ => 0)
  case atStart => exact ⟨1, Nat.one_pos, hn, rfl, by rw [Lib.maxOf_one]; simp [List.getD]⟩
  case round =>
    obtain ⟨k, hk0, hk, rfl, rfl⟩ := hrel
    by_cases hlt : k < n
    · have hcell : w.cell? ⟨b, off + k, none⟩ = some (.int .i64 (zs.getD k 0)) := hc k (by omega)
      have hst := Lib.maxOf_step zs k hk0 (by omega)
      generalize zs.getD k 0 = z at hcell hst
      generalize Lib.maxOf (zs.take k) = y at hst
      have HST := Lib.hid hst
      have hltI : (k : Int) < (n : Int) := by omega
      clear hst hc h0
      go_wp2
      go_round
      case rel => exact ⟨k + 1, Nat.succ_pos k, by omega, by go_num, by rw [HST.out]⟩
      case measure => simp; omega
    · have : k = n := by omega
      subst this
      go_wp2
      go_ret
      exact ⟨rfl, rfl⟩

set_option maxHeartbeats 2000000 in
set_option maxRecDepth 100000 in
theorem Min_any (b off n c : Nat) (zs : List Int) (w : World) (hn : 0 < n) (hz : n ≤ zs.length) (hbig : n ≤ 9223372036854775807) (hc : ∀ j, j < zs.length → w.cell? ⟨b, off + j, none⟩ = some (.int .i64 (zs.getD j 0))) :
    Calls Try.prog 46 #[.slice (some ⟨b, off, none⟩) n c] w fun e w' => e = .returned (.int .i64 (Lib.minOf (zs.take n))) ∧ w' = w := by
  have h0 : w.cell? ⟨b, off, none⟩ = some (.int .i64 (zs.getD 0 0)) := by simpa using hc 0 (by omega)
  go_enter Try.func46, Try.ntmps46
  go_wp2
  go_loop [3, 4] (fun m i => ∃ k : Nat, 0 < k ∧ k ≤ n ∧ i = .int .i64 k ∧ m = .int .i64 (Lib.minOf (zs.take k))) (fun _ i => match i with | .int _ q => n - q.toNat | _ => 0)
  case atStart => exact ⟨1, Nat.one_pos, hn, rfl, by rw [Lib.minOf_one]; simp [List.getD]⟩
  case round =>
    obtain ⟨k, hk0, hk, rfl, rfl⟩ := hrel
    by_cases hlt : k < n
    · have hcell : w.cell? ⟨b, off + k, none⟩ = some (.int .i64 (zs.getD k 0)) := hc k (by omega)
      have hst := Lib.minOf_step zs k hk0 (by omega)
      generalize zs.getD k 0 = z at hcell hst
      generalize Lib.minOf (zs.take k) = y at hst
      have HST := Lib.hid hst
      have hltI : (k : Int) < (n : Int) := by omega
      clear hst hc h0
      go_wp2
      go_round
      case rel => exact ⟨k + 1, Nat.succ_pos k, by omega, by go_num, by rw [HST.out]⟩
      case measure => simp; omega
    · have : k = n := by omega
      subst this
      go_wp2
      go_ret
      exact ⟨rfl, rfl⟩
end Go.Proofs.Ytfieinajkkcelaa.Ed
