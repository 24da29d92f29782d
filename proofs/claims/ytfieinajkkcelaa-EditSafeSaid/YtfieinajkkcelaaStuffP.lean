
/- Layer 3 (stuff): what Plain, its reference and the reference of Put compute. -/
import Derived.Test.YtfieinajkkcelaaStuffH
namespace Go.Proofs.Ytfieinajkkcelaa.Stuff
open Go.RowKit Go.Proofs.Ytfieinajkkcelaa.Mem Go.Proofs.Ytfieinajkkcelaa.StuffL

theorem infoBool : (Try.prog.info? 4).map (fun i => (i.zero, i.size, i.bytes)) = some (some (.bool false), 1, 1) := by kernel_rfl

set_option maxHeartbeats 1000000 in
theorem refPut_any (A : Option Addr) (cap : Nat) (l : List UInt8) (W : World) (hA : Bytes W W.heap.size A l) (hl : l.length ≤ 70368744177664) :
    Calls Try.prog 33 #[.slice A l.length cap] W (Gives W (put l)) := by
  go_enter Try.func33, Try.ntmps33
  go_wp2
  go_loopw [3, 4] (fun v i wr => ∃ k : Nat, k ≤ l.length ∧ i = .int .i64 k ∧ Own 5 wr W.heap.size v (put (l.take k)) ∧ Below W.heap.size W wr) (fun _ i _ => l.length - (intOf i).toNat)
  case atStart => exact ⟨0, Nat.zero_le _, rfl, Own.nil _ _ _, Below.refl _ _⟩
  case round =>
    obtain ⟨k, hk, rfl, ho, hb⟩ := hrel
    have hsz := hb.size
    by_cases hlt : k < l.length
    · obtain ⟨bl, off, rfl, _, hcell⟩ := (hA.below hb (Nat.le_refl _)).at_ hlt
      have hr := byteAt_range l k
      have HS := Lib.hid (put_step l k hlt)
      have hle := (put_take_length l k hk).2
      have hx := xor32 l k
      by_cases he : (byteAt l k == 126 || byteAt l k == 125) = true
      · have HO := Lib.hid (one_esc he)
        by_cases h1 : byteAt l k = 126
        all_goals
          first
            | (have h1' : (byteAt l k == 126) = true := by simpa using h1)
            | (have h1' : (byteAt l k == 126) = false := by simpa using h1
               have h2' : (byteAt l k == 125) = true := by simpa [h1'] using he)
          clear he h1
          go_wp2_with (at_builtin; refine wpList_app_lit _ rfl _ _ 22 rfl 5 Try.underlying22 infoU8 W.heap.size _ (put (l.take k)) rfl ho [125, fl (nth8 l k)] 2 2 _ rfl rfl rfl hsz (by simp; omega) ?_)
          intro v3 w3 ho3 hg3
          have hb3 := ho.grown hb hg3 (Nat.le_refl _) (Nat.le_refl _)
          clear hg3 ho hb hx
          go_wp2
          go_roundw
          case rel => exact ⟨k + 1, hlt, by go_num, by rw [HS.out, HO.out]; exact ho3, hb3⟩
          case measure => simp [intOf]; omega
      · have he' : (byteAt l k == 126 || byteAt l k == 125) = false := by simpa using he
        have HO := Lib.hid (one_plain he')
        have h12 := Bool.or_eq_false_iff.1 he'
        have h1' := h12.1
        have h2' := h12.2
        clear he he' h12
        go_wp2_with (at_builtin; refine wpList_app_lit _ rfl _ _ 22 rfl 5 Try.underlying22 infoU8 W.heap.size _ (put (l.take k)) rfl ho [nth8 l k] 1 1 _ rfl rfl rfl hsz (by simp; omega) ?_)
        intro v3 w3 ho3 hg3
        have hb3 := ho.grown hb hg3 (Nat.le_refl _) (Nat.le_refl _)
        clear hg3 ho hb hx
        go_wp2
        go_roundw
        case rel => exact ⟨k + 1, hlt, by go_num, by rw [HS.out, HO.out]; exact ho3, hb3⟩
        case measure => simp [intOf]; omega
    · have hkl : l.take k = l := List.take_of_length_le (by omega)
      have HK := Lib.hid (congrArg put hkl); clear hkl
      go_wp2
      go_ret
      exact ⟨_, rfl, (congrArg (Own _ wr W.heap.size _) HK.out).mp ho, hb⟩

/-- a call hands back bools of its own, and leaves what was there -/
def GivesB (w : World) (l : List Bool) (e : Ending) (w' : World) : Prop := ∃ v, e = .returned v ∧ OwnV 4 w' w.heap.size v (l.map Value.bool) ∧ Below w.heap.size w w'

theorem pgo_step (l : List UInt8) (k : Nat) (h : k < l.length) : pgo (l.take (k + 1)) = pstep (pgo (l.take k)) (nth8 l k) := by rw [take_snoc l k h, pgo_snoc]

/-- after k rounds the row holds the first k answers, and false behind -/
def prow (l : List UInt8) (k : Nat) : List Value := ((pgo (l.take k)).1.map Value.bool) ++ List.replicate (l.length - k) (.bool false)
theorem prow_length (l : List UInt8) (k : Nat) (hk : k ≤ l.length) : (prow l k).length = l.length := by
  unfold prow
  rw [List.length_append, List.length_map, pgo_length, List.length_replicate, List.length_take]
  omega
theorem prow_next (l : List UInt8) (k : Nat) (h : k < l.length) (b : Bool) (hb : (pgo (l.take (k + 1))).1 = (pgo (l.take k)).1 ++ [b]) : (prow l k).set k (.bool b) = prow l (k + 1) := by
  unfold prow
  have hl : ((pgo (l.take k)).1.map Value.bool).length = k := by rw [List.length_map, pgo_length, List.length_take]; omega
  rw [hb, List.map_append, show l.length - k = (l.length - (k + 1)) + 1 by omega, List.replicate_succ]
  rw [List.set_append_right _ _ (by omega), hl, Nat.sub_self]
  simp
theorem prow_skip (l : List UInt8) (k : Nat) (h : k < l.length) (hb : (pgo (l.take (k + 1))).1 = (pgo (l.take k)).1 ++ [false]) : prow l k = prow l (k + 1) := by
  unfold prow
  rw [hb, List.map_append, show l.length - k = (l.length - (k + 1)) + 1 by omega, List.replicate_succ]
  simp
theorem prow_end (l : List UInt8) : prow l l.length = (plain l).map Value.bool := by
  unfold prow plain
  simp

set_option maxHeartbeats 1000000 in
theorem Plain_any (A : Option Addr) (cap : Nat) (l : List UInt8) (W : World) (hA : Bytes W W.heap.size A l) (hl : l.length ≤ 140737488355328) :
    Calls Try.prog 44 #[.slice A l.length cap] W (GivesB W (plain l)) := by
  obtain ⟨i0, hi, hz0, hz1, hz2⟩ := info_parts infoBool
  go_enter Try.func44, Try.ntmps44
  go_wp2_with (at_make; refine wpList_make_full _ rfl _ _ 69 rfl W.heap.size 4 i0 (.bool false) 1 Try.underlying69 hi hz0 hz1 _ _ _ _ l.length rfl rfl rfl rfl (by rw [hz2]; omega) (by unfold maxLen; omega) (Nat.le_refl _) ?_)
  intro w1 hown hgrow
  have hO := ownV_made hown
  have hB := (Below.refl W.heap.size W).grown hgrow (Nat.le_refl _) (fun k hk => by cases hk)
  clear hown hgrow hi hz0 hz1 hz2
  go_wp2
  go_loopw [4, 12] (fun t i wr => ∃ (k : Nat) (b : Bool), k ≤ l.length ∧ i = .int .i64 k ∧ t = .bool b ∧ OwnV 4 wr W.heap.size (.slice (some ⟨W.heap.size, 0, none⟩) l.length l.length) (prow l k) ∧ Hid ((pgo (l.take k)).2 = b) ∧ Below W.heap.size W wr) (fun _ i _ => l.length - (intOf i).toNat)
  case atStart => exact ⟨0, false, Nat.zero_le _, rfl, rfl, by simpa [prow, pgo] using hO, Lib.hid rfl, hB⟩
  case round =>
    obtain ⟨k, b, hk, rfl, rfl, ho, HG, hb⟩ := hrel
    by_cases hlt : k < l.length
    · obtain ⟨bl, off, rfl, _, hcell⟩ := (hA.below hb (Nat.le_refl _)).at_ hlt
      have hr := byteAt_range l k
      have hs := pgo_step l k hlt
      obtain ⟨g, hg, _, _, hc1, hc2⟩ := ho.at_ (k := k) (by rw [prow_length l k hk]; exact hlt)
      simp only [Option.some.injEq, Addr.mk.injEq, and_true] at hg
      subst hg
      have hc1' : ∃ u, wr.cell? ⟨W.heap.size, k, none⟩ = some u := ⟨_, hc1.trans (List.getElem?_eq_getElem (by rw [prow_length l k hk]; exact hlt))⟩
      obtain ⟨u, hcu⟩ := hc1'
      clear hc1
      cases b with
      | true =>
        have e1 : (pgo (l.take (k + 1))) = ((pgo (l.take k)).1 ++ [false], false) := by rw [hs, pstep, if_pos HG.out]
        have H1 := Lib.hid (prow_skip l k hlt (by rw [e1]))
        have H2 := Lib.hid (show (pgo (l.take (k + 1))).2 = false by rw [e1])
        clear hs e1
        go_wp2
        go_roundw
        case rel => exact ⟨k + 1, false, hlt, by go_num, rfl, by rw [← H1.out]; exact ho, H2, hb⟩
        case measure => simp [intOf]; omega
      | false =>
        have e1 : (pgo (l.take (k + 1))) = ((pgo (l.take k)).1 ++ [!(byteAt l k == 126) && !(byteAt l k == 125)], byteAt l k == 125) := by
          rw [hs, pstep, if_neg (by rw [HG.out]; decide), esc_iff, Bool.not_or]
          congr 1
          rw [Bool.eq_iff_iff, beq_iff_eq, beq_iff_eq]
          exact nth8_eq l k 125
        have H1 := Lib.hid (prow_next l k hlt _ (show (pgo (l.take (k + 1))).1 = _ by rw [e1]))
        have H2 := Lib.hid (show (pgo (l.take (k + 1))).2 = (byteAt l k == 125) by rw [e1])
        clear hs e1
        go_wp2_with (go_at_call 60; refine (special_any _ _).mono ?_; rintro e w' ⟨rfl, rfl⟩)
        go_roundw
        case rel => exact ⟨k + 1, _, hlt, by go_num, rfl, by rw [← H1.out]; exact ho.set k _, H2, hb.setCell (Nat.le_refl _) _⟩
        case measure => simp [intOf]; omega
    · obtain rfl : k = l.length := by omega
      have HK := Lib.hid (prow_end l)
      go_wp2
      go_ret
      exact ⟨_, rfl, by rw [← HK.out]; exact ho, hb⟩

set_option maxHeartbeats 1000000 in
theorem refPlain_any (A : Option Addr) (cap : Nat) (l : List UInt8) (W : World) (hA : Bytes W W.heap.size A l) (hl : l.length ≤ 140737488355328) :
    Calls Try.prog 47 #[.slice A l.length cap] W (GivesB W (plain l)) := by
  obtain ⟨i0, hi, hz0, hz1, hz2⟩ := info_parts infoBool
  go_enter Try.func47, Try.ntmps47
  go_wp2_with (at_make; refine wpList_make_full _ rfl _ _ 69 rfl W.heap.size 4 i0 (.bool false) 1 Try.underlying69 hi hz0 hz1 _ _ _ _ l.length rfl rfl rfl rfl (by rw [hz2]; omega) (by unfold maxLen; omega) (Nat.le_refl _) ?_)
  intro w1 hown hgrow
  have hO := ownV_made hown
  have hB := (Below.refl W.heap.size W).grown hgrow (Nat.le_refl _) (fun k hk => by cases hk)
  clear hown hgrow hi hz0 hz1 hz2
  go_wp2
  go_loopw [4, 5] (fun t i wr => ∃ (k : Nat) (b : Bool), k ≤ l.length ∧ i = .int .i64 k ∧ t = .bool b ∧ OwnV 4 wr W.heap.size (.slice (some ⟨W.heap.size, 0, none⟩) l.length l.length) (prow l k) ∧ Hid ((pgo (l.take k)).2 = b) ∧ Below W.heap.size W wr) (fun _ i _ => l.length - (intOf i).toNat)
  case atStart => exact ⟨0, false, Nat.zero_le _, rfl, rfl, by simpa [prow, pgo] using hO, Lib.hid rfl, hB⟩
  case round =>
    obtain ⟨k, b, hk, rfl, rfl, ho, HG, hb⟩ := hrel
    by_cases hlt : k < l.length
    · obtain ⟨bl, off, rfl, _, hcell⟩ := (hA.below hb (Nat.le_refl _)).at_ hlt
      have hr := byteAt_range l k
      have hs := pgo_step l k hlt
      obtain ⟨g, hg, _, _, hc1, hc2⟩ := ho.at_ (k := k) (by rw [prow_length l k hk]; exact hlt)
      simp only [Option.some.injEq, Addr.mk.injEq, and_true] at hg
      subst hg
      have hc1' : ∃ u, wr.cell? ⟨W.heap.size, k, none⟩ = some u := ⟨_, hc1.trans (List.getElem?_eq_getElem (by rw [prow_length l k hk]; exact hlt))⟩
      obtain ⟨u, hcu⟩ := hc1'
      clear hc1
      cases b with
      | true =>
        have e1 : (pgo (l.take (k + 1))) = ((pgo (l.take k)).1 ++ [false], false) := by rw [hs, pstep, if_pos HG.out]
        have H1 := Lib.hid (prow_skip l k hlt (by rw [e1]))
        have H2 := Lib.hid (show (pgo (l.take (k + 1))).2 = false by rw [e1])
        clear hs e1
        go_wp2
        go_roundw
        case rel => exact ⟨k + 1, false, hlt, by go_num, rfl, by rw [← H1.out]; exact ho, H2, hb⟩
        case measure => simp [intOf]; omega
      | false =>
        have e1 : (pgo (l.take (k + 1))) = ((pgo (l.take k)).1 ++ [!(byteAt l k == 126) && !(byteAt l k == 125)], byteAt l k == 125) := by
          rw [hs, pstep, if_neg (by rw [HG.out]; decide), esc_iff, Bool.not_or]
          congr 1
          rw [Bool.eq_iff_iff, beq_iff_eq, beq_iff_eq]
          exact nth8_eq l k 125
        have H1 := Lib.hid (prow_next l k hlt _ (show (pgo (l.take (k + 1))).1 = _ by rw [e1]))
        have H2 := Lib.hid (show (pgo (l.take (k + 1))).2 = (byteAt l k == 125) by rw [e1])
        clear hs e1
        by_cases h1 : byteAt l k = 126
        · have h1' : (byteAt l k != 126) = false := by simpa using h1
          have h1e : (byteAt l k == 126) = true := by simpa using h1
          have H3 := Lib.hid h1e
          clear h1 h1e
          go_wp2
          go_roundw
          case rel =>
            have hset := ho.set k (.bool (!(byteAt l k == 126) && !(byteAt l k == 125)))
            rw [H1.out, H3.out] at hset
            exact ⟨k + 1, _, hlt, by go_num, rfl, hset, H2, hb.setCell (Nat.le_refl _) _⟩
          case measure => simp [intOf]; omega
        · have h1' : (byteAt l k != 126) = true := by simpa using h1
          have h1e : (byteAt l k == 126) = false := by simpa using h1
          have H3 := Lib.hid h1e
          clear h1 h1e
          go_wp2
          go_roundw
          case rel =>
            have hset := ho.set k (.bool (!(byteAt l k == 126) && !(byteAt l k == 125)))
            rw [H1.out, H3.out] at hset
            exact ⟨k + 1, _, hlt, by go_num, rfl, hset, H2, hb.setCell (Nat.le_refl _) _⟩
          case measure => simp [intOf]; omega
    · obtain rfl : k = l.length := by omega
      have HK := Lib.hid (prow_end l)
      go_wp2
      go_ret
      exact ⟨_, rfl, by rw [← HK.out]; exact ho, hb⟩
end Go.Proofs.Ytfieinajkkcelaa.Stuff
