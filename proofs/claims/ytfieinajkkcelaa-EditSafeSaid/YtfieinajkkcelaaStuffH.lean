
/- Layer 3 (stuff): what the references of Get and Put compute. -/
import Derived.Test.YtfieinajkkcelaaStuffG
namespace Go.Proofs.Ytfieinajkkcelaa.Stuff
open Go.RowKit Go.Proofs.Ytfieinajkkcelaa.Mem Go.Proofs.Ytfieinajkkcelaa.StuffL

theorem esc_fl (c : UInt8) : esc (fl c) = (c == 94 || c == 93) := by
  unfold esc fl
  have h : ∀ d : UInt8, (c ^^^ 32 == d) = (c == d ^^^ 32) := by
    intro d
    rw [Bool.eq_iff_iff, beq_iff_eq, beq_iff_eq]
    constructor
    · rintro rfl; rw [UInt8.xor_assoc]; simp
    · rintro rfl; rw [UInt8.xor_assoc]; simp
  rw [h, h]
  rfl

set_option maxHeartbeats 1000000 in
theorem refGet_any (A : Option Addr) (cap : Nat) (l : List UInt8) (W : World) (hA : Bytes W W.heap.size A l) (hl : l.length ≤ 140737488355328) :
    Calls Try.prog 56 #[.slice A l.length cap] W (GivesE W (unput l) 30) := by
  go_enter Try.func56, Try.ntmps56
  go_wp2
  go_loopw [4, 5] (fun v i wr => ∃ (k : Nat) (o : List UInt8), k ≤ l.length ∧ i = .int .i64 k ∧ Own 5 wr W.heap.size v o ∧ o.length ≤ k ∧ Hid (go (some ([], false)) (l.take k) = some (o, false)) ∧ Below W.heap.size W wr) (fun _ i _ => l.length - (intOf i).toNat)
  case atStart => exact ⟨0, [], Nat.zero_le _, rfl, Own.nil _ _ _, by simp, Lib.hid rfl, Below.refl _ _⟩
  case round =>
    obtain ⟨k, o, hk, rfl, ho, hok, HG, hb⟩ := hrel
    have hsz := hb.size
    by_cases hlt : k < l.length
    · obtain ⟨bl, off, hAe, hbl, hcells⟩ := (hA.below hb (Nat.le_refl _)) (by omega)
      subst hAe
      have hcell := hcells k hlt
      have hcells' := Lib.hid hcells
      clear hcells
      have hr := byteAt_range l k
      have HS := Lib.hid (go_step l k hlt HG.out)
      by_cases h1 : byteAt l k = 126
      · have hn : unput l = none := get_none (k := k + 1) (by
          rw [HS.out, (nth8_eq l k 126).2 h1]
          rfl)
        have HN := Lib.hid hn; clear hn
        have h1' : (byteAt l k == 126) = true := by simpa using h1
        clear h1
        go_wp2
        all_goals go_ret2
        all_goals exact ⟨_, ret_err HN.out, own_err HN.out, hb⟩
      · have h1' : (byteAt l k == 126) = false := by simpa using h1
        have h1'' : nth8 l k ≠ 126 := fun e => h1 ((nth8_eq l k 126).1 e)
        have H1 := Lib.hid h1''
        clear h1 h1''
        by_cases h2 : byteAt l k = 125
        · have hst : ustep (some (o, false)) (nth8 l k) = some (o, true) := by
            simp only [ustep]; rw [if_neg H1.out, if_pos ((nth8_eq l k 125).2 h2)]
          have HT := Lib.hid (HS.out.trans hst)
          have h2' : (byteAt l k != 125) = false := by simpa using h2
          clear h2 hst
          by_cases hlt2 : k + 1 < l.length
          · have hcell2 := hcells'.out (k + 1) hlt2
            skip
            have hr2 := byteAt_range l (k + 1)
            have hx := xor32 l (k + 1)
            have HS2 := Lib.hid (go_step l (k + 1) hlt2 HT.out)
            by_cases h3 : byteAt l (k + 1) = 94 ∨ byteAt l (k + 1) = 93
            · have hst : ustep (some (o, true)) (nth8 l (k + 1)) = some (o ++ [fl (nth8 l (k + 1))], false) := by
                simp only [ustep]
                have hne : nth8 l (k + 1) ≠ 126 := by
                  rw [Ne, nth8_eq]
                  rcases h3 with h3 | h3 <;> rw [h3] <;> decide
                have he : esc (fl (nth8 l (k + 1))) = true := by
                  rw [esc_fl]
                  rcases h3 with h3 | h3
                  · rw [(nth8_eq l (k + 1) 94).2 h3]; rfl
                  · rw [(nth8_eq l (k + 1) 93).2 h3]; rfl
                rw [if_neg hne]; exact if_pos he
              have HT2 := Lib.hid (HS2.out.trans hst)
              have h3' : ((byteAt l (k + 1) != 94) && (byteAt l (k + 1) != 93)) = false := by
                rcases h3 with h3 | h3 <;> rw [h3] <;> rfl
              clear hst
              by_cases h4 : byteAt l (k + 1) = 94
              · have h4' : (byteAt l (k + 1) != 94) = false := by simpa using h4
                clear h3 h3' h4
                go_wp2_with (at_builtin; refine wpList_app_lit _ rfl _ _ 22 rfl 5 Try.underlying22 infoU8 W.heap.size _ o rfl ho [fl (nth8 l (k + 1))] 1 1 _ rfl rfl rfl hsz (by simp; omega) ?_)
                intro v3 w3 ho3 hg3
                have hb3 := ho.grown hb hg3 (Nat.le_refl _) (Nat.le_refl _)
                clear hg3 ho hb hx
                go_wp2
                go_roundw
                case rel => exact ⟨k + 1 + 1, _, by omega, by go_num, ho3, by simp; omega, HT2, hb3⟩
                case measure => simp [intOf]; omega
              · have h4' : (byteAt l (k + 1) != 94) = true := by simpa using h4
                have h5' : (byteAt l (k + 1) != 93) = false := by
                  rcases h3 with h3 | h3
                  · exact absurd h3 h4
                  · simpa using h3
                clear h3 h3' h4
                go_wp2_with (at_builtin; refine wpList_app_lit _ rfl _ _ 22 rfl 5 Try.underlying22 infoU8 W.heap.size _ o rfl ho [fl (nth8 l (k + 1))] 1 1 _ rfl rfl rfl hsz (by simp; omega) ?_)
                intro v3 w3 ho3 hg3
                have hb3 := ho.grown hb hg3 (Nat.le_refl _) (Nat.le_refl _)
                clear hg3 ho hb hx
                go_wp2
                go_roundw
                case rel => exact ⟨k + 1 + 1, _, by omega, by go_num, ho3, by simp; omega, HT2, hb3⟩
                case measure => simp [intOf]; omega
            · have hst : ustep (some (o, true)) (nth8 l (k + 1)) = none := by
                simp only [ustep]
                by_cases he : nth8 l (k + 1) = 126
                · rw [if_pos he]
                · rw [if_neg he]
                  refine if_neg ?_
                  show ¬ esc (fl (nth8 l (k + 1))) = true
                  rw [esc_fl, Bool.or_eq_true, beq_iff_eq, beq_iff_eq, nth8_eq, nth8_eq]
                  exact h3
              have hn : unput l = none := get_none (k := k + 1 + 1) (HS2.out.trans hst)
              have HN := Lib.hid hn
              have h4' : (byteAt l (k + 1) != 94) = true := by rw [bne_iff_ne]; exact fun e => h3 (.inl e)
              have h5' : (byteAt l (k + 1) != 93) = true := by rw [bne_iff_ne]; exact fun e => h3 (.inr e)
              clear hst hn h3 hx
              go_wp2
              all_goals go_ret2
              all_goals exact ⟨_, ret_err HN.out, own_err HN.out, hb⟩
          · have hkl : k + 1 = l.length := by omega
            have hn : unput l = none := by
              have := HT.out
              rw [hkl] at this
              exact get_end this
            have HN := Lib.hid hn
            clear hkl hn
            go_wp2
            all_goals go_ret2
            all_goals exact ⟨_, ret_err HN.out, own_err HN.out, hb⟩
        · have hst : ustep (some (o, false)) (nth8 l k) = some (o ++ [nth8 l k], false) := by
            simp only [ustep]; rw [if_neg H1.out, if_neg (fun e => h2 ((nth8_eq l k 125).1 e))]
          have HT := Lib.hid (HS.out.trans hst)
          have h2' : (byteAt l k != 125) = true := by simpa using h2
          clear h2 hst
          go_wp2_with (at_builtin; refine wpList_app_lit _ rfl _ _ 22 rfl 5 Try.underlying22 infoU8 W.heap.size _ o rfl ho [nth8 l k] 1 1 _ rfl rfl rfl hsz (by simp; omega) ?_)
          intro v3 w3 ho3 hg3
          have hb3 := ho.grown hb hg3 (Nat.le_refl _) (Nat.le_refl _)
          clear hg3 ho hb
          go_wp2
          go_roundw
          case rel => exact ⟨k + 1, _, hlt, by go_num, ho3, by simp; omega, HT, hb3⟩
          case measure => simp [intOf]; omega
    · obtain rfl : k = l.length := by omega
      have HE := Lib.hid (get_end HG.out)
      go_wp2
      go_ret2
      exact ⟨_, ret_ok HE.out, own_ok HE.out ho, hb⟩
end Go.Proofs.Ytfieinajkkcelaa.Stuff
