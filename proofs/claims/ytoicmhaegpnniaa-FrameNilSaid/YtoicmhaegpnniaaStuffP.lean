
/- Layer 3 (stuff): what Plain, its reference and the reference of Put compute. -/
import Derived.Test.YtoicmhaegpnniaaStuffH
namespace Go.Proofs.Ytoicmhaegpnniaa.Stuff
open Go.RowKit Go.Proofs.Ytoicmhaegpnniaa.Mem Go.Proofs.Ytoicmhaegpnniaa.StuffL

theorem infoBool : (Try.prog.info? 4).map (fun i => (i.zero, i.size, i.bytes)) = some (some (.bool false), 1, 1) := by kernel_rfl

set_option maxHeartbeats 1000000 in
theorem refPut_any (A : Option Addr) (cap : Nat) (l : List UInt8) (W : World) (hA : Bytes W W.heap.size A l) (hl : l.length ≤ 70368744177664) :
    Calls Try.prog 45 #[.slice A l.length cap] W (Gives W (put l)) := by
  go_enter Try.func45, Try.ntmps45
  go_wp2
  go_loopw [3, 4] (fun v i wr => ∃ k : Nat, k ≤ l.length ∧ i = .int .i64 k ∧ Own 5 wr W.heap.size v (put (l.take k)) ∧ Below W.heap.size W wr) (fun _ i _ => l.length - (intOf i).toNat)
  case atStart => exact ⟨0, Nat.zero_le _, rfl, Own.nil _ _ _, Below.refl _ _⟩
  case round =>
    obtain ⟨k, hk, rfl, ho, hb⟩ := hrel
    have hsz := hb.size
    by_cases hlt : k < l.length
    · obtain ⟨bl, off, rfl, _, hcell⟩ := (hA.below hb (Nat.le_refl _)).at_ hlt
      have hr := byteAt_range l k
      have HS := Lib.hid (put_step l k hlt)
      have hle := (put_take_length l k hk).2
      have hx := xor32 l k
      by_cases he : (byteAt l k == 126 || byteAt l k == 125) = true
      · have HO := Lib.hid (one_esc he)
        by_cases h1 : byteAt l k = 126
        all_goals
          first
            | (have h1' : (byteAt l k == 126) = true := by simpa using h1)
            | (have h1' : (byteAt l k == 126) = false := by simpa using h1
               have h2' : (byteAt l k == 125) = true := by simpa [h1'] using he)
          clear he h1
          go_wp2_with (at_builtin; refine wpList_app_lit _ rfl _ _ 22 rfl 5 Try.underlying22 infoU8 W.heap.size _ (put (l.take k)) rfl ho [125, fl (nth8 l k)] 2 2 _ rfl rfl rfl hsz (by simp; omega) ?_)
          intro v3 w3 ho3 hg3
          have hb3 := ho.grown hb hg3 (Nat.le_refl _) (Nat.le_refl _)
          clear hg3 ho hb hx
          go_wp2
          go_roundw
          case rel => exact ⟨k + 1, hlt, by go_num, by rw [HS.out, HO.out]; exact ho3, hb3⟩
          case measure => simp [intOf]; omega
      · have he' : (byteAt l k == 126 || byteAt l k == 125) = false := by simpa using he
        have HO := Lib.hid (one_plain he')
        have h12 := Bool.or_eq_false_iff.1 he'
        have h1' := h12.1
        have h2' := h12.2
        clear he he' h12
        go_wp2_with (at_builtin; refine wpList_app_lit _ rfl _ _ 22 rfl 5 Try.underlying22 infoU8 W.heap.size _ (put (l.take k)) rfl ho [nth8 l k] 1 1 _ rfl rfl rfl hsz (by simp; omega) ?_)
        intro v3 w3 ho3 hg3
        have hb3 := ho.grown hb hg3 (Nat.le_refl _) (Nat.le_refl _)
        clear hg3 ho hb hx
        go_wp2
        go_roundw
        case rel => exact ⟨k + 1, hlt, by go_num, by rw [HS.out, HO.out]; exact ho3, hb3⟩
        case measure => simp [intOf]; omega
    · have hkl : l.take k = l := List.take_of_length_le (by omega)
      have HK := Lib.hid (congrArg put hkl); clear hkl
      go_wp2
      go_ret
      exact ⟨_, rfl, (congrArg (Own _ wr W.heap.size _) HK.out).mp ho, hb⟩

/-- a call hands back bools of its own, and leaves what was there -/
def GivesB (w : World) (l : List Bool) (e : Ending) (w' : World) : Prop := ∃ v, e = .returned v ∧ OwnV 4 w' w.heap.size v (l.map Value.bool) ∧ Below w.heap.size w w'

theorem pgo_step (l : List UInt8) (k : Nat) (h : k < l.length) : pgo (l.take (k + 1)) = pstep (pgo (l.take k)) (nth8 l k) := by rw [take_snoc l k h, pgo_snoc]

/-- after k rounds the row holds the first k answers, and false behind -/
def prow (l : List UInt8) (k : Nat) : List Value := ((pgo (l.take k)).1.map Value.bool) ++ List.replicate (l.length - k) (.bool false)
theorem prow_length (l : List UInt8) (k : Nat) (hk : k ≤ l.length) : (prow l k).length = l.length := by
  unfold prow
  rw [List.length_append, List.length_map, pgo_length, List.length_replicate, List.length_take]
  omega
theorem prow_next (l : List UInt8) (k : Nat) (h : k < l.length) (b : Bool) (hb : (pgo (l.take (k + 1))).1 = (pgo (l.take k)).1 ++ [b]) : (prow l k).set k (.bool b) = prow l (k + 1) := by
  unfold prow
  have hl : ((pgo (l.take k)).1.map Value.bool).length = k := by rw [List.length_map, pgo_length, List.length_take]; omega
  rw [hb, List.map_append, show l.length - k = (l.length - (k + 1)) + 1 by omega, List.replicate_succ]
  rw [List.set_append_right _ _ (by omega), hl, Nat.sub_self]
  simp
theorem prow_skip (l : List UInt8) (k : Nat) (h : k < l.length) (hb : (pgo (l.take (k + 1))).1 = (pgo (l.take k)).1 ++ [false]) : prow l k = prow l (k + 1) := by
  unfold prow
  rw [hb, List.map_append, show l.length - k = (l.length - (k + 1)) + 1 by omega, List.replicate_succ]
  simp
theorem prow_end (l : List UInt8) : prow l l.length = (plain l).map Value.bool := by
  unfold prow plain
  simp

end Go.Proofs.Ytoicmhaegpnniaa.Stuff
