/- Layer 3 (stuff): the page's examples, and the laws' walks. -/
import Derived.Test.YtknpengboappiaaStuffP
import Derived.Test.YtknpengboappiaaOctB
namespace Go.Proofs.Ytknpengboappiaa.Stuff
open Go.RowKit Go.Proofs.Ytknpengboappiaa.Mem Go.Proofs.Ytknpengboappiaa.StuffL
open Go.Proofs.Ytknpengboappiaa.Oct (refSame_any Drawn)

theorem num_any (n : Int) (W : World) :
    Calls Try.prog 20 #[.int .i64 n] W fun e W' => e = .returned (.int .i64 n) ∧ W = W' := by
  go_enter Try.func20, Try.ntmps20
  go_wp2
  go_ret
  exact ⟨rfl, rfl⟩

set_option maxHeartbeats 2000000 in
theorem live_any (W : World) :
    Calls Try.prog 17 #[] W fun e W' => e = .returned (.bool true) ∧ Below W.heap.size W W' := by
  go_enter Try.func17, Try.ntmps17
  go_wp2_with fail
  refine (Get_any (some ⟨W.heap.size, 0, none⟩) 2 [125, 93] _ (lit_bytes 5 W [125, 93] _ rfl (by simp [maxLen])) (by simp)).mono ?_
  rintro e w1 ⟨v1, rfl, ho1, hb1⟩
  have hb1 := below_next (below_alloc (Below.refl W.heap.size W) _) hb1
  have e1 : unput [125, 93] = some [125] := by decide
  rw [e1] at ho1
  have E1 := Lib.hid ho1
  obtain ⟨A1, c1, rfl, _, _, _⟩ := ho1.shape
  have e2 : eno (unput [125, 93]) 30 = 0 := by rw [e1]; rfl
  rw [e2]
  clear e1 e2 ho1
  go_wp2_with fail
  refine (Get_any (some ⟨w1.heap.size, 0, none⟩) 2 [125, 1] _ (lit_bytes 5 w1 [125, 1] _ rfl (by simp [maxLen])) (by simp)).mono ?_
  rintro e w2 ⟨v2, rfl, ho2, hb2⟩
  have e1 : unput [125, 1] = none := by decide
  have hb12 := below_next (below_alloc (Below.refl w1.heap.size w1) _) hb2
  rw [e1] at ho2
  obtain ⟨A2, c2, rfl, _, _, _⟩ := ho2.shape
  have e2 : eno (unput [125, 1]) 30 = 30 := by rw [e1]; rfl
  rw [e2]
  clear e1 e2 ho2 hb2
  go_wp2_with fail
  refine (Plain_any (some ⟨w2.heap.size, 0, none⟩) 4 [1, 125, 94, 2] _ (lit_bytes 5 w2 [1, 125, 94, 2] _ rfl (by simp [maxLen])) (by simp)).mono ?_
  rintro e w3 ⟨v3, rfl, ho3, hb3⟩
  have hb23 := below_next (below_alloc (Below.refl w2.heap.size w2) _) hb3
  have e1 : (plain [1, 125, 94, 2]).map Value.bool = [.bool true, .bool false, .bool false, .bool true] := by rw [show plain [1, 125, 94, 2] = [true, false, false, true] by decide]; rfl
  rw [e1] at ho3
  have E3 := Lib.hid ho3
  obtain ⟨A3, c3, rfl, _, _, _⟩ := ho3.shape
  clear e1 ho3 hb3
  go_wp2_with fail
  refine (Put_any (some ⟨w3.heap.size, 0, none⟩) 2 [126, 1] _ (lit_bytes 5 w3 [126, 1] _ rfl (by simp [maxLen])) (by simp)).mono ?_
  rintro e w4 ⟨v4, rfl, ho4, hb4⟩
  have hb34 := below_next (below_alloc (Below.refl w3.heap.size w3) _) hb4
  have e1 : put [126, 1] = [125, 94, 1] := by decide
  rw [e1] at ho4
  have E4 := Lib.hid ho4
  obtain ⟨A4, c4, rfl, _, _, _⟩ := ho4.shape
  clear e1 ho4 hb4
  go_wp2_with fail
  refine (refSame_any A4 (some ⟨w4.heap.size, 0, none⟩) c4 3 [125, 94, 1] [125, 94, 1] _ _ _ (E4.out.later (below_alloc (Below.refl _ _) _)) (lit_bytes 5 w4 [125, 94, 1] _ rfl (by simp [maxLen])) (by simp [maxLen]) (by simp [maxLen])).mono ?_
  rintro e w5 ⟨rfl, hd5⟩
  have hb45 := (below_alloc (Below.refl w4.heap.size w4) _).trans (hd5.below w4.heap.size)
  have hb15 := below_next (below_next (below_next hb12 hb23) hb34) hb45
  have hb35 := below_next hb34 hb45
  clear hd5
  go_wp2_with (go_at_call 20; refine (num_any _ _).mono ?_; rintro e w' ⟨rfl, rfl⟩)
  refine (refSame_any A1 (some ⟨w5.heap.size, 0, none⟩) c1 1 [125] [125] _ _ _ (E1.out.later (below_next hb15 (below_alloc (Below.refl _ _) _))) (lit_bytes 5 w5 [125] _ rfl (by simp [maxLen])) (by simp [maxLen]) (by simp [maxLen])).mono ?_
  rintro e w6 ⟨rfl, hd6⟩
  have hb56 := (below_alloc (Below.refl w5.heap.size w5) _).trans (hd6.below w5.heap.size)
  have hb36 := below_next hb35 hb56
  clear hd6
  have H6 := Lib.hid ((E3.out).below hb36)
  obtain ⟨g, rfl, _, _, h0, _⟩ := H6.out.at_ (k := 0) (by simp)
  obtain ⟨g', hg', _, _, h1, _⟩ := H6.out.at_ (k := 1) (by simp)
  obtain ⟨g'', hg'', _, _, h2, _⟩ := H6.out.at_ (k := 2) (by simp)
  obtain ⟨g3, hg3, _, _, h3, _⟩ := H6.out.at_ (k := 3) (by simp)
  simp only [Option.some.injEq, Addr.mk.injEq, and_true] at hg' hg'' hg3
  subst hg' hg'' hg3
  simp at h0 h1 h2 h3
  go_wp2_with (go_at_call 20; refine (num_any _ _).mono ?_; rintro e w' ⟨rfl, rfl⟩)
  go_ret
  exact ⟨rfl, (below_next hb1 hb15).trans (hb56.mono (below_next hb1 hb15).size)⟩

/-- StuffPuts -/
theorem StuffPuts_any (A : Option Addr) (cap : Nat) (l : List UInt8) (W : World) (hA : Bytes W W.heap.size A l) (hl : l.length ≤ 1048576) :
    Calls Try.prog 3 #[.slice A l.length cap] W fun e W' => e = .returned (.bool true) ∧ Below W.heap.size W W' := by
  obtain ⟨hp1, hp2⟩ := put_length l
  go_enter Try.func3, Try.ntmps3
  go_wp2_with fail
  refine (Put_any A cap l _ hA (by omega)).mono ?_
  rintro e w1 ⟨v1, rfl, ho1, hb1⟩
  obtain ⟨A1, c1, rfl, _, _, _⟩ := ho1.shape
  go_wp2_with fail
  refine (refPut_any A cap l _ (hA.later hb1) (by omega)).mono ?_
  rintro e w2 ⟨v2, rfl, ho2, hb2⟩
  obtain ⟨A2, c2, rfl, _, _, _⟩ := ho2.shape
  go_wp2_with fail
  refine (refSame_any A1 A2 c1 c2 (put l) (put l) _ _ _ (ho1.later hb2) ho2.bytes (by unfold maxLen; omega) (by unfold maxLen; omega)).mono ?_
  rintro e w3 ⟨rfl, hd3⟩
  have hb3 := hd3.below w2.heap.size
  have hb := below_next (below_next hb1 hb2) hb3
  go_wp2_with (go_at_call 16; refine (Size_any A cap l _ _ (hA.later hb) (by omega)).mono ?_; rintro e w' ⟨rfl, rfl⟩)
  go_wp2_with fail
  refine (live_any _).mono ?_
  rintro e w4 ⟨rfl, hb4⟩
  go_wp2
  go_ret
  exact ⟨rfl, below_next hb hb4⟩

/-- StuffGets -/
theorem StuffGets_any (A : Option Addr) (cap : Nat) (l : List UInt8) (W : World) (hA : Bytes W W.heap.size A l) (hl : l.length ≤ 140737488355328) :
    Calls Try.prog 4 #[.slice A l.length cap] W fun e W' => e = .returned (.bool true) ∧ Below W.heap.size W W' := by
  have hlen : ((unput l).getD []).length ≤ l.length := by
    cases h : unput l with
    | none => simp
    | some o => exact get_length h
  go_enter Try.func4, Try.ntmps4
  go_wp2_with fail
  refine (Get_any A cap l _ hA (by omega)).mono ?_
  rintro e w1 ⟨v1, rfl, ho1, hb1⟩
  obtain ⟨A1, c1, rfl, _, _, _⟩ := ho1.shape
  go_wp2_with fail
  refine (refGet_any A cap l _ (hA.later hb1) (by omega)).mono ?_
  rintro e w2 ⟨v2, rfl, ho2, hb2⟩
  obtain ⟨A2, c2, rfl, _, _, _⟩ := ho2.shape
  go_wp2_with fail
  refine (refSame_any A1 A2 c1 c2 _ _ _ _ _ (ho1.later hb2) ho2.bytes (by unfold maxLen; omega) (by unfold maxLen; omega)).mono ?_
  rintro e w3 ⟨rfl, hd3⟩
  have hb3 := hd3.below w2.heap.size
  have hb := below_next (below_next hb1 hb2) hb3
  go_wp2_with (go_at_call 20; refine (num_any _ _).mono ?_; rintro e w' ⟨rfl, rfl⟩)
  go_wp2_with fail
  refine (live_any _).mono ?_
  rintro e w4 ⟨rfl, hb4⟩
  go_wp2
  go_ret
  exact ⟨rfl, below_next hb hb4⟩

theorem no_flag {l : List UInt8} {k : Nat} (hk : k < (put l).length) : (byteAt (put l) k == 126) = false := by
  rw [beq_eq_false_iff_ne]
  intro h
  have h2 := (nth8_eq (put l) k 126).2 h
  have hm : nth8 (put l) k ∈ put l := by
    unfold nth8
    rw [List.getD, List.getElem?_eq_getElem hk]
    exact List.getElem_mem hk
  rw [h2] at hm
  exact put_flag l hm

set_option maxHeartbeats 1000000 in
/-- StuffBack -/
theorem StuffBack_any (A B : Option Addr) (cap cb : Nat) (l s : List UInt8) (W : World) (hA : Bytes W W.heap.size A l) (hB : Bytes W W.heap.size B s) (hl : l.length ≤ 140737488355328) (hs : s.length ≤ 140737488355328) :
    Calls Try.prog 5 #[.slice A l.length cap, .slice B s.length cb] W fun e W' => e = .returned (.bool true) ∧ Below W.heap.size W W' := by
  obtain ⟨hp1, hp2⟩ := put_length l
  go_enter Try.func5, Try.ntmps5
  go_wp2_with fail
  refine (Put_any A cap l _ hA hl).mono ?_
  rintro e w1 ⟨v1, rfl, ho1, hb1⟩
  obtain ⟨A1, c1, rfl, _, _, _⟩ := ho1.shape
  go_wp2_with fail
  refine (Get_any A1 c1 (put l) _ ho1.bytes (by omega)).mono ?_
  rintro e w2 ⟨v2, rfl, ho2, hb2⟩
  have e1 := get_put l
  have e2 : eno (unput (put l)) 30 = 0 := by rw [e1]; rfl
  rw [e1] at ho2
  simp only [Option.getD_some] at ho2
  rw [e2]
  obtain ⟨A2, c2, rfl, _, _, _⟩ := ho2.shape
  clear e1 e2
  have hb := below_next hb1 hb2
  go_wp2_with (go_at_call 20; refine (num_any _ _).mono ?_; rintro e w' ⟨rfl, rfl⟩)
  refine (refSame_any A2 A c2 cap l l _ _ _ ho2.bytes (hA.later hb) (by unfold maxLen; omega) (by unfold maxLen; omega)).mono ?_
  rintro e w3 ⟨rfl, hd3⟩
  have hb3 := hd3.below w2.heap.size
  have hbb := below_next hb hb3
  have hP := ho1.later (below_next hb2 hb3)
  have hle : ((put l).length : Int) - (l.length : Int) ≤ (l.length : Int) := by omega
  clear hd3
  go_wp2_with fail
  go_loop [8] (fun i => ∃ k : Nat, k ≤ (put l).length ∧ i = .int .i64 k) (fun i => (put l).length - (intOf i).toNat)
  case atStart => exact ⟨0, Nat.zero_le _, rfl⟩
  case round =>
    obtain ⟨k, hk, rfl⟩ := hrel
    by_cases hlt : k < (put l).length
    · obtain ⟨bl, off, rfl, _, hcell⟩ := hP.at_ hlt
      have hf := no_flag hlt
      go_wp2_with fail
      go_round
      case rel => exact ⟨k + 1, by omega, by go_num⟩
      case measure => simp [intOf]; omega
    · have hk' : k = (put l).length := by omega
      subst hk'
      cases hu : unput s with
      | none =>
        have HU := Lib.hid hu
        clear hu
        go_wp2_with fail
        refine (Get_any B cb s _ (hB.later hbb) (by omega)).mono ?_
        rintro e w4 ⟨v4, rfl, ho4, hb4⟩
        rw [HU.out] at ho4
        rw [HU.out]
        have e2 : eno none 30 = 30 := rfl
        rw [e2]
        obtain ⟨A4, c4, rfl, _, _, _⟩ := ho4.shape
        have hb5 := below_next hbb hb4
        go_wp2_with (go_at_call 20; refine (num_any _ _).mono ?_; rintro e w' ⟨rfl, rfl⟩)
        refine (live_any _).mono ?_
        rintro e w6 ⟨rfl, hb6⟩
        go_wp2_with fail
        go_ret
        exact ⟨rfl, below_next hb5 hb6⟩
      | some y =>
        have HU := Lib.hid hu
        have hle2 := get_length hu
        have hpg := put_get s y hu
        have HP := Lib.hid hpg
        clear hu hpg
        go_wp2_with fail
        refine (Get_any B cb s _ (hB.later hbb) (by omega)).mono ?_
        rintro e w4 ⟨v4, rfl, ho4, hb4⟩
        rw [HU.out] at ho4
        rw [HU.out]
        have e2 : eno (some y) 30 = 0 := rfl
        rw [e2]
        simp only [Option.getD_some] at ho4
        obtain ⟨A4, c4, rfl, _, _, _⟩ := ho4.shape
        have hb5 := below_next hbb hb4
        go_wp2_with (go_at_call 20; refine (num_any _ _).mono ?_; rintro e w' ⟨rfl, rfl⟩)
        refine (Put_any A4 c4 y _ ho4.bytes (by omega)).mono ?_
        rintro e w6 ⟨v6, rfl, ho6, hb6⟩
        rw [HP.out] at ho6
        obtain ⟨A6, c6, rfl, _, _, _⟩ := ho6.shape
        have hb7 := below_next hb5 hb6
        go_wp2_with fail
        refine (refSame_any A6 B c6 cb s s _ _ _ ho6.bytes (hB.later hb7) (by unfold maxLen; omega) (by unfold maxLen; omega)).mono ?_
        rintro e w8 ⟨rfl, hd8⟩
        have hb8 := below_next hb7 (hd8.below w6.heap.size)
        go_wp2_with fail
        refine (live_any _).mono ?_
        rintro e w9 ⟨rfl, hb9⟩
        go_wp2_with fail
        go_ret
        exact ⟨rfl, below_next hb8 hb9⟩

set_option maxHeartbeats 1000000 in
/-- StuffPlain -/
theorem StuffPlain_any (A : Option Addr) (cap : Nat) (l : List UInt8) (W : World) (hA : Bytes W W.heap.size A l) (hl : l.length ≤ 140737488355328) :
    Calls Try.prog 6 #[.slice A l.length cap] W fun e W' => e = .returned (.bool true) ∧ Below W.heap.size W W' := by
  have hlen : ((plain l).map Value.bool).length = l.length := by rw [List.length_map]; exact pgo_length l
  go_enter Try.func6, Try.ntmps6
  go_wp2_with fail
  refine (Plain_any A cap l _ hA (by omega)).mono ?_
  rintro e w1 ⟨v1, rfl, ho1, hb1⟩
  obtain ⟨A1, c1, rfl, _, _, _⟩ := ho1.shape
  rw [hlen] at ho1 ⊢
  go_wp2_with fail
  refine (refPlain_any A cap l _ (hA.later hb1) (by omega)).mono ?_
  rintro e w2 ⟨v2, rfl, ho2, hb2⟩
  obtain ⟨A2, c2, rfl, _, _, _⟩ := ho2.shape
  rw [hlen] at ho2 ⊢
  have ho1' := ho1.below hb2
  have hb := below_next hb1 hb2
  have HL := Lib.hid hlen
  clear hlen ho1
  go_wp2_with fail
  go_loopw [5] (fun i wr => ∃ k : Nat, k ≤ l.length ∧ i = .int .i64 k ∧ Drawn w2 wr) (fun i _ => l.length - (intOf i).toNat)
  case atStart => exact ⟨0, Nat.zero_le _, rfl, Oct.Drawn.refl _⟩
  case round =>
    obtain ⟨k, hk, rfl, hd⟩ := hrel
    have hbd := hd.below w2.heap.size
    by_cases hlt : k < l.length
    · obtain ⟨g1, rfl, _, _, hc1, _⟩ := (ho1'.below hbd).at_ (k := k) (by rw [HL.out]; exact hlt)
      obtain ⟨g2, rfl, _, _, hc2, _⟩ := (ho2.below hbd).at_ (k := k) (by rw [HL.out]; exact hlt)
      obtain ⟨b, hbb⟩ : ∃ b, ((plain l).map Value.bool)[k]? = some (.bool b) := by
        rw [List.getElem?_map]
        have : k < (plain l).length := by have := HL.out; rw [List.length_map] at this; omega
        exact ⟨(plain l)[k], by rw [List.getElem?_eq_getElem this]; rfl⟩
      rw [hbb] at hc1 hc2
      have hlt' : (k : Int) < (l.length : Int) := by omega
      clear hbb
      go_wp2_with fail
      go_quiet (fail)
      go_wp2_with fail
      go_roundw
      case rel => exact ⟨k + 1, by omega, by go_num, hd.step _⟩
      case measure => simp [intOf]; omega
    · go_wp2_with fail
      refine (live_any _).mono ?_
      rintro e w6 ⟨rfl, hb6⟩
      go_wp2_with fail
      go_ret
      exact ⟨rfl, below_next (below_next hb hbd) hb6⟩
end Go.Proofs.Ytknpengboappiaa.Stuff
