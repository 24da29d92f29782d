
/- Layer 6 (edit): what lies between two bytes; what no table forges. -/
import Derived.Test.YtfieinajkkcelaaEdH
import Derived.Test.YtfieinajkkcelaaDefL
import Derived.Maps.AppendAt
namespace Go.Proofs.Ytfieinajkkcelaa.Ed
open Go.RowKit Go.Proofs.Ytfieinajkkcelaa.Mem Go.Proofs.Ytfieinajkkcelaa.Oct Go.Proofs.Ytfieinajkkcelaa.Pkt Go.Proofs.Ytfieinajkkcelaa.Def

theorem infoEdit : (Try.prog.info? 66).map (fun i => (i.zero, i.size, i.bytes)) = some (some (.agg #[.int .i64 0, .int .i64 0, .int .u8 0]), 3, 24) := by kernel_rfl
theorem edit_parts : ∃ i, Try.prog.info? 66 = some i ∧ i.zero = some (.agg #[.int .i64 0, .int .i64 0, .int .u8 0]) ∧ i.size = 3 ∧ i.bytes = 24 := by
  have h := infoEdit
  cases hi : Try.prog.info? 66 with
  | none => rw [hi] at h; simp at h
  | some i =>
    rw [hi] at h
    simp only [Option.map_some, Option.some.injEq, Prod.mk.injEq] at h
    exact ⟨i, rfl, h.1, h.2.1, h.2.2⟩

set_option maxHeartbeats 4000000 in
set_option maxRecDepth 100000 in
theorem Between_one (g1 g2 : Nat) (W : World) (h1 : W.cell? ⟨g1, 0, none⟩ = some (.int .u8 1)) (h2 : W.cell? ⟨g2, 0, none⟩ = some (.int .u8 2)) (hg1 : g1 < W.heap.size) (hg2 : g2 < W.heap.size) :
    Calls Try.prog 40 #[.slice (some ⟨g1, 0, none⟩) 1 1, .slice (some ⟨g2, 0, none⟩) 1 1] W fun e w' => ∃ A c, e = .returned (.slice A 1 c) ∧ Below W.heap.size W w' := by
  go_enter Try.func40, Try.ntmps40
  go_wp2_with fail
  go_loopw [5, 8, 9, 36] (fun v _ _ i wr => ∃ (k c : Nat) (A : Option Addr) (xs : List Value), k ≤ 1 ∧ i = .int .i64 k ∧ v = .slice A k c ∧ wr.ownsRow W.heap.size 66 3 v k xs ∧ Below W.heap.size W wr) (fun _ _ _ i _ => 1 - (intOf i).toNat)
  case atStart => exact ⟨0, 0, none, [], by omega, rfl, rfl, World.ownsRow_nil _ _ _ _, Below.refl _ _⟩
  case round =>
    obtain ⟨k, c, A, xs, hk, rfl, rfl, ho, hb⟩ := hrel
    have hsz := hb.size
    by_cases hk0 : k = 0
    · subst hk0
      have hx1 : wr.cell? ⟨g1, 0, none⟩ = some (.int .u8 1) := by rw [(bcell hb).1 _ _ hg1]; exact h1
      have hx2 : wr.cell? ⟨g2, 0, none⟩ = some (.int .u8 2) := by rw [(bcell hb).1 _ _ hg2]; exact h2
      obtain ⟨i0, e1, e2, e3, e4⟩ := edit_parts
      have HO := Lib.hid ho
      have HB := Lib.hid hb
      clear ho hb
      go_wp2_with (at_builtin; refine wpList_append_own_at _ rfl _ _ 49 rfl W.heap.size 66 i0 _ 3 24 Try.underlying49 e1 e2 e3 e4 rfl (by omega) _ 0 xs rfl (World.ownsRow.alloc HO.out _) ⟨wr.heap.size, 0, none⟩ 1 1 [.int .i64 0, .int .i64 0, .int .u8 2] rfl rfl (fun j u hj => by
          rw [Addr.add_lit]
          match j, hj with
          | 0, hj => simp at hj; subst hj; simp [go_sem]
          | 1, hj => simp at hj; subst hj; simp [go_sem]
          | 2, hj => simp at hj; subst hj; simp [go_sem]
          | (j + 3), hj => simp at hj) (by simp [Value.oneCell']) (by unfold maxLen; omega) (by omega) (by simp; omega) ?_)
      intro v' w' ho' hg' _ _
      have hb' : Below W.heap.size W w' := (HB.out.alloc hsz _).grown hg' (by simp; omega) (fun g hg => (World.ownsRow.lt HO.out g hg).1)
      obtain ⟨A', c', hv'⟩ : ∃ A' c', v' = .slice A' 1 c' := by
        rcases ho'.2 with ⟨_, h⟩ | ⟨g, cap, cur, h, _⟩
        · omega
        · exact ⟨_, _, h⟩
      subst hv'
      have HO' := Lib.hid ho'
      have HB' := Lib.hid hb'
      clear ho' hb' hg'
      go_wp2_with fail
      go_roundw
      case rel => exact ⟨1, _, _, _, by omega, by go_num, rfl, HO'.out, HB'.out⟩
      case measure => simp [intOf]
    · obtain rfl : k = 1 := by omega
      go_wp2_with fail
      go_ret
      exact ⟨A, c, rfl, hb⟩

theorem Forged_nil (u v : Value) (W : World) : Calls Try.prog 31 #[.pointer none, u, v] W fun e W' => e = .returned (.bool false) ∧ W = W' := by
  go_enter Try.func31, Try.ntmps31
  go_wp2_with fail
  refine (Def.All_nil _ _).mono ?_
  rintro e w1 ⟨rfl, rfl⟩
  go_wp2_with fail
  go_ret
  exact ⟨rfl, rfl⟩
end Go.Proofs.Ytfieinajkkcelaa.Ed
