
/- Layer 5 (deframe): the law on frames one behind the other. -/
import Derived.Test.YtfieinajkkcelaaDefC
import Derived.Test.YtfieinajkkcelaaDefO
attribute [local go_sem ↓] Go.wp_at_zero Go.wp_at_succ
namespace Go.Proofs.Ytfieinajkkcelaa.Def
open Go.RowKit Go.Proofs.Ytfieinajkkcelaa.Mem Go.Proofs.Ytfieinajkkcelaa.Oct Go.Proofs.Ytfieinajkkcelaa.Pkt Go.Proofs.Ytfieinajkkcelaa.DefM Go.Proofs.Ytfieinajkkcelaa.FrmM

theorem wrapF_ne (b : List UInt8) : 2 ≤ (wrapF b).length := by unfold wrapF; simp
theorem RestAt.own' {p : Nat → Prop} {w : World} {base : Nat} {A : Option Addr} {n k : Nat} {l : List UInt8} (h : Own 5 w base (.slice A n k) l) (hp : ∀ g, base ≤ g → g < w.heap.size → p g) : RestAt p w A l := RestAt.own h hp
theorem wrapF_le (b : List UInt8) (h : b.length ≤ 96) : (wrapF b).length ≤ 202 := by
  have := wv_le b
  rwa [show wv b = wrapF b from if_pos h] at this

set_option maxHeartbeats 16000000 in
/-- DeframeOnly -/
theorem DeframeOnly_any (A B : Option Addr) (ca cb : Nat) (l : List UInt8) (ls : List (List UInt8)) (sh : Bool) (W : World) (hA : Bytes W W.heap.size A l) (hca : l.length ≤ ca) (hma : ca ≤ maxLen) (hB : Texts W W.heap.size B ls) (hcb : ls.length ≤ cb) (hmb : cb ≤ maxLen) :
    Calls Try.prog 3 #[.slice A l.length ca, .slice B ls.length cb, .bool sh] W fun e W' => e = .returned (.bool true) ∧ Below W.heap.size W W' := by
  have hll : l.length ≤ maxLen := Nat.le_trans hca hma
  have hlt : ls.length ≤ maxLen := Nat.le_trans hcb hmb
  unfold maxLen at hll hlt
  by_cases hgo : l.length ≤ 2000 ∧ ls.length ≤ 12
  case neg =>
    have hx : 2000 < l.length ∨ (¬ 2000 < l.length ∧ 12 < ls.length) := by omega
    clear hgo hca hma hcb hmb
    rcases hx with hx | ⟨hx, hy⟩
    · have hlI : (2000 : Int) < (l.length : Int) := by omega
      go_enter Try.func3, Try.ntmps3
      go_wp2_with fail
      refine (live_any _).mono ?_
      rintro e w7 ⟨rfl, hb7⟩
      go_wp2
      go_ret
      exact ⟨rfl, hb7⟩
    · have hlI : ¬ (2000 : Int) < (l.length : Int) := by omega
      have hlJ : (12 : Int) < (ls.length : Int) := by omega
      go_enter Try.func3, Try.ntmps3
      go_wp2_with fail
      refine (live_any _).mono ?_
      rintro e w7 ⟨rfl, hb7⟩
      go_wp2
      go_ret
      exact ⟨rfl, hb7⟩
  obtain ⟨h2000, h12⟩ := hgo
  have hlI : ¬ ((2000 : Int) < (l.length : Int)) := by omega
  have hlJ : ¬ ((12 : Int) < (ls.length : Int)) := by omega
  have HLT := Lib.hid (fun i => show (nthT ls i).length ≤ maxLen from by
    rcases Nat.lt_or_ge i ls.length with h | h
    · obtain ⟨_, _, _, _, _, _, _, h1, h2, _⟩ := hB.at_ h
      exact Nat.le_trans h1 h2
    · have : nthT ls i = [] := by unfold nthT; simp [List.getD, h]
      rw [this]; simp)
  have HFL := Lib.hid (fun k => filt_len (l.take k))
  clear hca hma hcb hmb hll hlt
  go_enter Try.func3, Try.ntmps3
  go_wp2_with fail
  go_loopw [7, 8] (fun v i wr => ∃ k : Nat, k ≤ l.length ∧ i = .int .i64 k ∧ Own 5 wr W.heap.size v (filt (l.take k)) ∧ Below W.heap.size W wr) (fun _ i _ => l.length - (intOf i).toNat)
  case atStart => exact ⟨0, by omega, rfl, Own.nil _ _ _, Below.refl _ _⟩
  case round =>
    obtain ⟨k, hk, rfl, ho, hb⟩ := hrel
    obtain ⟨A1, n1, c1, rfl, hn1⟩ := own_shape ho
    have HO := Lib.hid ho
    have HB := Lib.hid hb
    have hsz := hb.size
    by_cases hlt : k < l.length
    · obtain ⟨bk, off, rfl, _, hcell⟩ := (hA.below hb (Nat.le_refl _)).at_ hlt
      have hltI : (k : Int) < (l.length : Int) := by omega
      have hfs := filt_snoc l k hlt
      clear ho hb
      by_cases hf : nth8 l k = 126
      · rw [if_pos hf] at hfs
        have HFS := Lib.hid hfs
        have hbb := flag_of.2 hf
        clear hfs hf
        go_wp2_with fail
        go_roundw
        case rel => exact ⟨k + 1, by omega, by go_num, by rw [HFS.out]; exact HO.out, HB.out⟩
        case measure => simp [intOf]; omega
      · rw [if_neg hf] at hfs
        have HFS := Lib.hid hfs
        have hbb := noflag_of.2 hf
        have hfl : (filt (l.take k)).length ≤ 1000000 := by have := HFL.out k; simp only [List.length_take] at this; omega
        clear hfs hf hn1
        go_wp2_with (at_builtin; refine wpList_app_byte _ rfl _ _ rfl W.heap.size _ (filt (l.take k)) rfl HO.out (nth8 l k) _ _ (by rfl) rfl hsz hfl ?_)
        intro v' w1 ho' hg' _
        have hb' := HO.out.grown HB.out hg' (Nat.le_refl _) (Nat.le_refl _)
        rw [← HFS.out] at ho'
        clear hg'
        go_wp2_with fail
        go_roundw
        case rel => exact ⟨k + 1, by omega, by go_num, ho', hb'⟩
        case measure => simp [intOf]; omega
    · obtain rfl : k = l.length := by omega
      rw [List.take_length] at ho hn1
      have HO' := Lib.hid ho
      clear ho hb HO
      have hnI : (n1 : Int) ≤ 2000 := by have := filt_len l; omega
      have HN1 := Lib.hid hn1
      obtain ⟨T0, hT0, hon0⟩ := on_start l
      rw [hn1] at hon0
      have HT0 := Lib.hid hT0
      have HON0 := Lib.hid hon0
      have HFN := Lib.hid (show (filt l).length ≤ 2000 by have := filt_len l; omega)
      clear hT0 hon0 hn1
      go_wp2_with fail
      go_loopw [7, 10] (fun v i wr => ∃ (k : Nat) (Bs : List UInt8) (T : St), k ≤ ls.length ∧ i = .int .i64 k ∧ Own 5 wr W.heap.size v Bs ∧ Below W.heap.size W wr ∧ Hid (run St0 Bs = (T, ls.take k) ∧ OnAt T n1 k ∧ Bs.length ≤ 2000 + 202 * k)) (fun _ i _ => ls.length - (intOf i).toNat)
      case atStart => exact ⟨0, filt l, T0, by omega, rfl, HO'.out, HB.out, Lib.hid ⟨HT0.out, HON0.out, by have := HFN.out; omega⟩⟩
      case round =>
        obtain ⟨k, Bs, T, hk, rfl, ho, hb, HK⟩ := hrel
        obtain ⟨A2, n2, c2, rfl, hn2⟩ := own_shape ho
        have HO2 := Lib.hid ho
        have HB2 := Lib.hid hb
        have hsz2 := hb.size
        by_cases hlt : k < ls.length
        · obtain ⟨bk, off, Ai, ci, rfl, _, hcell, hx1, hx2, hx3⟩ := (hB.below hb (Nat.le_refl _)).at_ hlt
          have hltI : (k : Int) < (ls.length : Int) := by omega
          have HX3 := Lib.hid hx3
          have hW := fun w h => Frm.refWrap_any Ai (nthT ls k).length ci (nthT ls k) w rfl h
          have htk := take_snocT ls k hlt
          clear ho hb hx1 hx2 hx3
          by_cases h96 : (nthT ls k).length ≤ 96
          · have e1 : we (nthT ls k) = 0 := if_pos h96
            have e2 : wv (nthT ls k) = wrapF (nthT ls k) := if_pos h96
            rw [e1, e2] at hW
            obtain ⟨⟨T1, hr1, ht1⟩, hsh⟩ := on_next HK.out.2.1 h96
            have hwl := wrapF_le _ h96
            have hw1 := wrapF_ne (nthT ls k)
            generalize nthT ls k = tx at *
            generalize wrapF tx = V at *
            have HWW := Lib.hid hW
            have HHT := Lib.hid htk
            have HR1 := Lib.hid hr1
            have HT1 := Lib.hid ht1
            have HSH := Lib.hid hsh
            have HWL := Lib.hid hwl
            have HTX := Lib.hid h96
            clear hW htk hr1 ht1 hsh e1 e2 h96
            have hkI : (k : Int) ≤ 12 := by omega
            by_cases hs : sh = true ∧ 0 < k
            · obtain ⟨rfl, hk0⟩ := hs
              have hk0I : (0 : Int) < (k : Int) := by omega
              obtain ⟨T2, hr2, ht2⟩ := HSH.out hk0
              have HK2 := Lib.hid (show run St0 (Bs ++ V.drop 1) = (T2, ls.take (k + 1)) ∧ OnAt T2 n1 (k + 1) ∧ (Bs ++ V.drop 1).length ≤ 2000 + 202 * (k + 1) from ⟨by rw [HHT.out]; exact on_run HK.out.1 hr2, ht2, by have := HK.out.2.2; simp only [List.length_append, List.length_drop]; omega⟩)
              clear hr2 ht2 hk0
              go_wp2_with fail
              refine (HWW.out _ (HX3.out.more hsz2)).mono ?_
              rintro e w1 ⟨v1, rfl, ho1, hb1⟩
              obtain ⟨A3, c3, rfl, hc3, hm3, _⟩ := ho1.shape
              obtain ⟨m3, hn3⟩ : ∃ m3, V.length = m3 + 2 := ⟨V.length - 2, by omega⟩
              obtain ⟨c4, rfl⟩ : ∃ c4, c3 = c4 + 2 := ⟨c3 - 2, by omega⟩
              obtain ⟨b3, off3, rfl, _, _⟩ := ho1.bytes.at_ (k := 0) (by omega)
              have hv1 : Bytes w1 w1.heap.size (some ⟨b3, off3 + 1, none⟩) (V.drop 1) := ho1.bytes.drop (k := 1) (by omega)
              have HV1 := Lib.hid hv1
              have HDL := Lib.hid (show m3 + 1 = (V.drop 1).length by simp; omega)
              have hcI : (m3 : Int) ≤ (c4 : Int) := by omega
              have HO3 := Lib.hid (HO2.out.below hb1)
              have HB3 := Lib.hid (below_next HB2.out hb1)
              have hsz3 : W.heap.size ≤ w1.heap.size := by have := hb1.size; omega
              have hne : ¬ c4 + 1 = 0 := by omega
              rw [hn3]
              clear hv1 ho1 hb1 hc3 hm3 hn3 hw1 hwl
              go_wp2_with (at_builtin; refine wpList_app _ rfl _ _ 22 rfl 5 Try.underlying22 infoU8 W.heap.size _ Bs rfl HO3.out w1.heap.size (some ⟨b3, off3 + 1, none⟩) _ _ (V.drop 1) rfl HDL.out HV1.out hsz3 (by have := HK2.out.2.2; simp only [List.length_append] at this; omega) ?_)
              intro v' w4 ho' hg'
              have hb' := HO3.out.grown HB3.out hg' (Nat.le_refl _) (Nat.le_refl _)
              clear hg'
              go_wp2_with fail
              go_roundw
              case rel => exact ⟨k + 1, Bs ++ V.drop 1, T2, by omega, by go_num, by rw [List.drop_one]; exact ho', hb', HK2⟩
              case measure => simp [intOf]; omega
            · have HK2 := Lib.hid (show run St0 (Bs ++ V) = (T1, ls.take (k + 1)) ∧ OnAt T1 n1 (k + 1) ∧ (Bs ++ V).length ≤ 2000 + 202 * (k + 1) from ⟨by rw [HHT.out]; exact on_run HK.out.1 HR1.out, HT1.out, by have := HK.out.2.2; simp only [List.length_append]; omega⟩)
              have hcase : sh = false ∨ (sh = true ∧ k = 0) := by
                cases sh
                · exact .inl rfl
                · exact .inr ⟨rfl, by have : ¬ 0 < k := fun h => hs ⟨rfl, h⟩; omega⟩
              clear hs hw1 hwl
              rcases hcase with rfl | ⟨rfl, hk0⟩
              case' inr =>
                subst hk0
                simp only [Nat.add_zero] at hcell
              all_goals (
                go_wp2_with fail
                refine (HWW.out _ (HX3.out.more hsz2)).mono ?_
                rintro e w1 ⟨v1, rfl, ho1, hb1⟩
                obtain ⟨A3, n3, c3, rfl, hn3⟩ := own_shape ho1
                have HV1 := Lib.hid ho1.bytes
                have HDL := Lib.hid hn3
                have HO3 := Lib.hid (HO2.out.below hb1)
                have HB3 := Lib.hid (below_next HB2.out hb1)
                have hsz3 : W.heap.size ≤ w1.heap.size := by have := hb1.size; omega
                clear ho1 hb1 hn3
                go_wp2_with (at_builtin; refine wpList_app _ rfl _ _ 22 rfl 5 Try.underlying22 infoU8 W.heap.size _ Bs rfl HO3.out w1.heap.size A3 _ _ V rfl HDL.out.symm HV1.out hsz3 (by have := HK2.out.2.2; simp only [List.length_append] at this; omega) ?_)
                intro v' w4 ho' hg'
                have hb' := HO3.out.grown HB3.out hg' (Nat.le_refl _) (Nat.le_refl _)
                clear hg'
                go_wp2_with fail
                go_roundw
                case rel => first | exact ⟨k + 1, Bs ++ V, T1, by omega, by go_num, ho', hb', HK2⟩ | exact ⟨0 + 1, Bs ++ V, T1, by omega, by go_num, ho', hb', HK2⟩
                case measure => simp [intOf]; omega)
          · have e1 : we (nthT ls k) = 2 := if_neg h96
            rw [e1] at hW
            have HWW := Lib.hid hW
            have HTX := Lib.hid (HLT.out k)
            clear hW htk h96 e1
            go_wp2_with fail
            refine (HWW.out _ (HX3.out.more hsz2)).mono ?_
            rintro e w1 ⟨v1, rfl, ho1, hb1⟩
            obtain ⟨A3, n3, c3, rfl, _⟩ := own_shape ho1
            have HB3 := Lib.hid (below_next HB2.out hb1)
            clear ho1 hb1
            go_wp2_with fail
            refine (live_any _).mono ?_
            rintro e w7 ⟨rfl, hb7⟩
            go_wp2
            go_ret
            exact ⟨rfl, below_next HB3.out hb7⟩
        · obtain rfl : k = ls.length := by omega
          obtain ⟨hrun, hon, hbl⟩ := HK.out
          rw [List.take_length] at hrun
          obtain ⟨g1, g2, g3, g4⟩ := on_end hon
          have HRUN := Lib.hid hrun
          have HBL := Lib.hid hbl
          have HG := Lib.hid (And.intro g1 (And.intro g2 (And.intro g3 g4)))
          clear hrun hon hbl g1 g2 g3 g4 ho hb HK
          go_wp2_with fail
          refine (Crc.New_any _).mono ?_
          rintro e w1 ⟨tb, rfl, htab, htb0, htb1, hb1⟩
          have HTAB := Lib.hid htab
          have HB3 := Lib.hid (below_next HB2.out hb1)
          have HO3 := Lib.hid (HO2.out.below hb1)
          have hw01 := hb1.size
          clear htab hb1
          go_wp2_with fail
          refine (New_any tb w1 HTAB.out htb1).mono ?_
          rintro e w2 ⟨s, rfl, h1, h2, hS, hb2⟩
          have hE := env_new HTAB.out htb1 hb2 h1 h2
          have hin : RestAt (fun g => g ≠ s ∧ (Value.slice none 0 0).ownBlock ≠ some g) w2 A2 Bs :=
            (RestAt.own (p := fun g => g ≠ s ∧ (Value.slice none 0 0).ownBlock ≠ some g) HO3.out (fun g _ hg => ⟨by omega, by simp [Value.ownBlock]⟩)).chg (chg_below hb2) (by simp)
          have hf := Feed_any s tb A2 c2 Bs (.slice none 0 0) St0 w2 hE hS (Own.nil _ _ _) ok0 (by have := HBL.out; unfold total St0; simp only; omega) hin
          rw [hn2, HRUN.out] at hf
          have HF := Lib.hid hf
          have HB4 := Lib.hid (below_next HB3.out hb2)
          have hWs : W.heap.size ≤ s := by have := HB2.out.size; omega
          clear hf hE hS hb2 hin
          go_wp2_with fail
          refine HF.out.mono ?_
          rintro e w3 ⟨v, o, vs, rfl, hI⟩
          have HB5 := Lib.hid (below_feed hI HB4.out HB4.out.size hWs)
          have hs3 : s < w3.heap.size := Nat.lt_of_lt_of_le h2 hI.chg.size
          have hsn := Seen_any s tb v T w3 hI.scan hs3
          rw [HG.out.1, HG.out.2.1, HG.out.2.2.1, HG.out.2.2.2] at hsn
          have HSN := Lib.hid hsn
          obtain ⟨Al, cl, rfl, _, _, htl, _⟩ := hI.texts
          have HTL := Lib.hid htl
          clear hI htl hsn
          go_wp2_with fail
          refine HSN.out.mono ?_
          rintro e w4 ⟨rfl, hb4⟩
          have hba := below_alloc (Below.refl w4.heap.size w4) (.cells #[.int .i64 ls.length, .int .i64 0, .int .i64 0, .int .i64 n1] 33)
          have HTL5 := Lib.hid ((HTL.out.later hb4).later hba)
          have HB6 := Lib.hid (below_next (below_next HB5.out hb4) hba)
          have hee : (ls == ls) = true := beq_self_eq_true ls
          have HEE := Lib.hid hee
          have HL12 := Lib.hid h12
          clear hb4 hba hee h12
          go_wp2_with fail
          refine (refSameAll_any Al B ls.length ls.length cl cb ls ls _ _ _ rfl rfl HTL5.out (hB.later HB6.out) (Nat.le_refl _) (Nat.le_refl _) (by have := HL12.out; omega)).mono ?_
          rw [HEE.out]
          rintro e w6 ⟨rfl, hd6⟩
          have hb6 := hd6.below (w4.heap.size + 1)
          have hcl := (bcell hb6).1
          have q0 : w6.cell? ⟨w4.heap.size, 0, none⟩ = some (.int .i64 ls.length) := by rw [hcl _ _ (by omega)]; simp [go_sem]
          have q1 : w6.cell? ⟨w4.heap.size, 1, none⟩ = some (.int .i64 0) := by rw [hcl _ _ (by omega)]; simp [go_sem]
          have q2 : w6.cell? ⟨w4.heap.size, 2, none⟩ = some (.int .i64 0) := by rw [hcl _ _ (by omega)]; simp [go_sem]
          have q3 : w6.cell? ⟨w4.heap.size, 3, none⟩ = some (.int .i64 n1) := by rw [hcl _ _ (by omega)]; simp [go_sem]
          have HB7 := Lib.hid (below_next HB6.out (hd6.below _))
          clear hd6 hb6 hcl
          go_wp2_with fail
          refine (live_any _).mono ?_
          rintro e w8 ⟨rfl, hb8⟩
          go_wp2
          go_ret
          exact ⟨rfl, below_next HB7.out hb8⟩
end Go.Proofs.Ytfieinajkkcelaa.Def
