
/- Layer 5 (deframe): the document's Scan, walked. -/
import Derived.Test.YtfieinajkkcelaaDefR
namespace Go.Proofs.Ytfieinajkkcelaa.Def
open Go.RowKit Go.Proofs.Ytfieinajkkcelaa.Mem Go.Proofs.Ytfieinajkkcelaa.Oct Go.Proofs.Ytfieinajkkcelaa.Pkt Go.Proofs.Ytfieinajkkcelaa.DefM Go.Proofs.Ytfieinajkkcelaa.FrmM

theorem flag_of {l : List UInt8} {k : Nat} : (byteAt l k != 126) = false ↔ nth8 l k = 126 := by
  rw [bne_eq_false_iff_eq]
  constructor
  · intro h
    exact nth8_eq (x := 126) h
  · intro h
    unfold byteAt
    unfold nth8 at h
    rw [h]
    rfl
theorem noflag_of {l : List UInt8} {k : Nat} : (byteAt l k != 126) = true ↔ nth8 l k ≠ 126 := by
  rw [← Bool.not_eq_false, Ne, flag_of]

theorem chg_drew {q : Nat → Prop} {a w : World} (h : Chg q a w) : Chg q a w.drew := ⟨h.os, h.tape, h.output, h.size, h.block⟩
theorem at_bound {l : List UInt8} {i : Nat} {O : List (List UInt8)} {g b lo n : Nat} (h : AtI l i O g b lo n) (hi : i < l.length) (hl : l.length ≤ 900000) : g ≤ 900000 ∧ b ≤ 900000 ∧ lo ≤ 900000 ∧ O.length ≤ 900000 := by
  obtain ⟨_, T, hr, hc, h1, h2, h3, h4⟩ := h.1 hi
  have ht := run_total (l.take (i + 1)) St0
  have hn := run_len (l.take (i + 1)) St0
  rw [hr] at ht hn
  simp only [total, St0, List.length_take] at ht hn
  omega

set_option maxHeartbeats 16000000 in
theorem Scan_any (A : Option Addr) (n cap : Nat) (l : List UInt8) (W : World) (hn : n = l.length) (hc : l.length ≤ cap) (hA : Bytes W W.heap.size A l) (hl : l.length ≤ 900000) :
    Calls Try.prog 19 #[.slice A n cap] W (GivesScan W (run St0 l)) := by
  subst hn
  have hsc0 : Sc W 0 0 0 0 (.slice none 0 0) [] [] ((W.alloc (.cells #[.int .i64 0, .int .i64 0, .int .i64 0, .int .i64 0] 37)).alloc (.cells #[.int .i64 0, .int .i64 0, .int .i64 0, .int .i64 0] 37)) := by
    refine ⟨below_alloc (below_alloc (Below.refl _ _) _) _, by simp, ⟨?_, ?_, ?_, ?_, fun i => ?_⟩, ⟨?_, ?_, ?_, ?_, fun i => ?_⟩, Fnd.nil _ _⟩ <;> simp [go_sem]
  have HSC0 := Lib.hid hsc0
  have HA := Lib.hid hA
  have HC := Lib.hid hc
  clear hsc0 hc hA
  go_enter Try.func19, Try.ntmps19
  go_wp2_with fail
  go_loopw [6] (fun i wr => ∃ k : Nat, k ≤ l.length ∧ i = .int .i64 k ∧ Hid (∀ j, j < k → nth8 l j ≠ 126) ∧ Sc W 0 0 0 k (.slice none 0 0) [] [] wr) (fun i _ => l.length - (intOf i).toNat)
  case atStart => exact ⟨0, by omega, rfl, Lib.hid (fun j hj => by omega), HSC0.out⟩
  case round =>
    obtain ⟨k, hk, rfl, HNF, hsc⟩ := hrel
    have d3 := hsc.tal.c3
    have f3 := hsc.tal.fz 3
    have HSC := Lib.hid hsc
    have hkI : (k : Int) ≤ 900000 := by omega
    by_cases hgo : k < l.length ∧ nth8 l k ≠ 126
    · obtain ⟨hlt, hnf⟩ := hgo
      obtain ⟨b, off, rfl, _, hcell⟩ := (HA.out.below hsc.below (Nat.le_refl _)).at_ hlt
      have hb := noflag_of.2 hnf
      have hltI : (k : Int) < (l.length : Int) := by omega
      have HNF' := Lib.hid (fun j (hj : j < k + 1) => (show nth8 l j ≠ 126 from by
        rcases Nat.lt_or_ge j k with h | h
        · exact HNF.out j h
        · have : j = k := by omega
          subst this; exact hnf))
      have HSC' := Lib.hid (hsc.tally (hsc.tal.set3 (k + 1)) (chg_set _ ⟨W.heap.size + 1, 3, none⟩ _))
      clear hsc hnf
      go_wp2_with fail
      go_roundw
      case rel => exact ⟨k + 1, by omega, by go_num, HNF', HSC'.out⟩
      case measure => simp [intOf]; omega
    · have hat : AtI l k [] 0 0 0 k := at_first hk HNF.out (fun h => Classical.byContradiction fun h2 => hgo ⟨h, h2⟩)
      have HAT := Lib.hid hat
      have hcell : k < l.length → ∃ b off, A = some ⟨b, off, none⟩ ∧ wr.cell? ⟨b, off + k, none⟩ = some (.int .u8 126) := fun hlt => by
        obtain ⟨b, off, h1, _, h2⟩ := (HA.out.below hsc.below (Nat.le_refl _)).at_ hlt
        have : byteAt l k = 126 := by
          have h3 := flag_of.2 (hat.1 hlt).1
          rw [bne_eq_false_iff_eq] at h3
          exact h3
        rw [this] at h2
        exact ⟨b, off, h1, h2⟩
      clear hat hgo HNF HSC0
      have loop2 : True := trivial
      rcases Nat.lt_or_ge k l.length with hlt | hge
      case' inl =>
        obtain ⟨b, off, rfl, hcell⟩ := hcell hlt
        have hltI : (k : Int) < (l.length : Int) := by omega
        clear hsc
        go_wp2_with fail
      case' inr =>
        have hltI : ¬ ((k : Int) < (l.length : Int)) := by omega
        clear hsc hcell
        go_wp2_with fail
      all_goals (
        clear hltI loop2 d3 f3
        go_loopw [4, 6] (fun o i wr => ∃ (m : Nat) (vs : List Value) (O : List (List UInt8)) (g b lo n : Nat), m ≤ l.length ∧ i = .int .i64 m ∧ Hid (AtI l m O g b lo n) ∧ Sc W g b lo n o vs O wr) (fun _ i _ => l.length - (intOf i).toNat)
        case atStart => exact ⟨k, [], [], 0, 0, 0, k, hk, rfl, HAT, HSC.out⟩
        case round =>
          obtain ⟨m, vs, O, g, b, lo, n, hm, rfl, HAT2, hsc⟩ := hrel
          have e0 := hsc.tal.c0
          have e1 := hsc.tal.c1
          have e2 := hsc.tal.c2
          have e3 := hsc.tal.c3
          have r0 := hsc.res.c0
          have r1 := hsc.res.c1
          have r2 := hsc.res.c2
          have r3 := hsc.res.c3
          have z0 := hsc.res.fz 0
          have z1 := hsc.res.fz 1
          have z2 := hsc.res.fz 2
          have z3 := hsc.res.fz 3
          have y0 := hsc.tal.fz 0
          have y1 := hsc.tal.fz 1
          have y2 := hsc.tal.fz 2
          have HSC2 := Lib.hid hsc
          have hsz := hsc.size
          clear hsc
          by_cases hlt : m < l.length
          · obtain ⟨bg, bb, bl, bo⟩ := at_bound HAT2.out hlt hl
            have hltI : (m : Int) < (l.length : Int) := by omega
            have hmI : (m : Int) ≤ 900000 := by omega
            go_wp2_with fail
            go_loop [7] (fun q => ∃ p : Nat, m + 1 ≤ p ∧ p ≤ l.length ∧ q = .int .i64 p ∧ Hid (∀ j, m + 1 ≤ j → j < p → nth8 l j ≠ 126)) (fun q => l.length - (intOf q).toNat)
            case atStart => exact ⟨m + 1, by omega, by omega, by go_num, Lib.hid (fun j h1 h2 => by omega)⟩
            case round =>
              obtain ⟨p, hp1, hp2, rfl, HNF⟩ := hrel
              have hpI : (p : Int) ≤ 900000 := by omega
              by_cases hpl : p < l.length
              · obtain ⟨bk, off, hAe, _, hcell⟩ := (HA.out.below HSC2.out.below (Nat.le_refl _)).at_ hpl
                cases hAe
                have hpI2 : (p : Int) < (l.length : Int) := by omega
                by_cases hf : nth8 l p = 126
                · have hnext := at_next HAT2.out hp1 hpl HNF.out hf
                  have HNX := Lib.hid hnext
                  have hb := flag_of.2 hf
                  obtain ⟨t, rfl⟩ : ∃ t, p = m + 1 + t := ⟨p - (m + 1), by omega⟩
                  obtain ⟨c', rfl⟩ : ∃ c', cap = m + 1 + (t + c' + 1) := ⟨cap - (m + 1 + t + 1), by have := HC.out; omega⟩
                  have hcut := (HA.out.below HSC2.out.below (Nat.le_refl _)).cut (lo := m + 1) (hi := m + 1 + t) (cap := m + 1 + (t + c' + 1)) (by omega) (by omega) HC.out
                  rw [if_neg (by omega)] at hcut
                  have hlen : ((l.take (m + 1 + t)).drop (m + 1)).length = t := by simp; omega
                  rw [hlen] at hnext
                  clear HNX
                  generalize (l.take (m + 1 + t)).drop (m + 1) = s at hcut hlen hnext
                  have HNX := Lib.hid hnext
                  have HCUT := Lib.hid hcut
                  have HLEN := Lib.hid hlen
                  have hbnd1 : (m : Int) + 1 ≤ (m : Int) + 1 + (t : Int) := by omega
                  have hbnd2 : (m : Int) + 1 + (t : Int) ≤ (m : Int) + 1 + ((t : Int) + (c' : Int) + 1) := by omega
                  clear hnext hcut hlen
                  have htI : (t : Int) ≤ 900000 := by omega
                  by_cases h200 : 200 < t
                  · have h200I : (200 : Int) < (t : Int) := by omega
                    have HAT3 := Lib.hid (HNX.out.1 h200)
                    have HSC3 := Lib.hid (HSC2.out.tally (HSC2.out.tal.set2 (lo + 1)) (chg_set _ ⟨W.heap.size + 1, 2, none⟩ _))
                    clear h200
                    go_wp2_with fail
                    go_roundw
                    case rel => exact ⟨m + 1 + t, vs, O, g, b, lo + 1, n, by omega, by go_num, HAT3, HSC3.out⟩
                    case measure => simp [intOf]; omega
                  · have h200I : ¬ ((200 : Int) < (t : Int)) := by omega
                    rcases Nat.eq_zero_or_pos t with ht0 | ht0
                    · have HAT3 := Lib.hid (HNX.out.2.1 (List.eq_nil_of_length_eq_zero (by have := HLEN.out; omega)))
                      have hcell' := hcell
                      have hb' := hb
                      rw [ht0, Nat.add_zero] at hcell' hb'
                      have hpI3 : (m : Int) + 1 < (l.length : Int) := by omega
                      have ht1 : ¬ ((0 : Int) < (t : Int)) := by omega
                      have hbnd3 : (m : Int) + 1 ≤ (m : Int) + 1 + ((c' : Int) + 1) := by omega
                      have HMT := Lib.hid (show (m : Int) + 1 = ((m + 1 + t : Nat) : Int) by omega)
                      have HMM := Lib.hid (show l.length - (m + 1) < l.length - m by omega)
                      clear h200
                      go_wp2_with fail
                      go_roundw
                      case rel => exact ⟨m + 1 + t, vs, O, g, b, lo, n, by omega, by first | go_num | (rw [HMT.out]), HAT3, HSC2.out⟩
                      case measure => first | (simp [intOf]; omega) | exact HMM.out
                    · have ht1 : (0 : Int) < (t : Int) := by omega
                      have hsne : s ≠ [] := by intro h; have := HLEN.out; rw [h] at this; simp at this; omega
                      have hs200 : s.length ≤ 200 := by have := HLEN.out; omega
                      have hbody := fun (blk cap : Nat) w h => Frm.refBody_any (some ⟨blk, off + (m + 1), none⟩) t cap s w HLEN.out.symm (by omega) h
                      have hWw := HSC2.out.size
                      cases hF : bodyF s with
                      | none =>
                        rw [hF] at hbody
                        replace hbody : ∀ (blk cap : Nat) w, Bytes w w.heap.size (some ⟨blk, off + (m + 1), none⟩) s → Calls Try.prog 39 #[.slice (some ⟨blk, off + (m + 1), none⟩) t cap] w fun e w' => ∃ v, e = .returned (.tuple #[v, .int .i64 40]) ∧ Own 5 w' w.heap.size v [] ∧ Below w.heap.size w w' := hbody
                        have HBD := Lib.hid hbody
                        have HAT3 := Lib.hid (HNX.out.2.2.1 hsne (by omega) hF)
                        clear h200 hsne hs200 hF hbody ht0
                        go_wp2_with fail
                        refine (HBD.out _ _ _ (HCUT.out.more HSC2.out.below.size)).mono ?_
                        rintro e w2 ⟨x, rfl, hx, hb2⟩
                        obtain ⟨Ax, nx, cx, rfl, _⟩ := own_shape hx
                        have hsc3 := HSC2.out.more hb2
                        have e1' := hsc3.tal.c1
                        have y1' := hsc3.tal.fz 1
                        have HSC3 := Lib.hid (hsc3.tally (hsc3.tal.set1 (b + 1)) (chg_set _ ⟨W.heap.size + 1, 1, none⟩ _))
                        clear hx hb2 hsc3
                        go_wp2_with fail
                        go_roundw
                        case rel => exact ⟨m + 1 + t, vs, O, g, b + 1, lo, n, by omega, by go_num, HAT3, HSC3.out⟩
                        case measure => simp [intOf]; omega
                      | some X =>
                        rw [hF] at hbody
                        replace hbody : ∀ (blk cap : Nat) w, Bytes w w.heap.size (some ⟨blk, off + (m + 1), none⟩) s → Calls Try.prog 39 #[.slice (some ⟨blk, off + (m + 1), none⟩) t cap] w fun e w' => ∃ v, e = .returned (.tuple #[v, .int .i64 0]) ∧ Own 5 w' w.heap.size v X ∧ Below w.heap.size w w' := hbody
                        have HBD := Lib.hid hbody
                        have HAT3 := Lib.hid (HNX.out.2.2.2 X hsne (by omega) hF)
                        have hos : ∀ g, u4.ownBlock = some g → g < wr.heap.size := fun g hg => (HSC2.out.fnd.out.lt g hg).2
                        have HOS := Lib.hid hos
                        have hvl : vs.length ≤ 1000000 := by rw [HSC2.out.fnd.len]; omega
                        obtain ⟨Ao, no, co, rfl, _⟩ := ownV_shape HSC2.out.fnd.out
                        clear h200 hsne hs200 hF hbody ht0 hos
                        go_wp2_with fail
                        refine (HBD.out _ _ _ (HCUT.out.more HSC2.out.below.size)).mono ?_
                        rintro e w2 ⟨x, rfl, hx, hb2⟩
                        have hsc3 := HSC2.out.more hb2
                        have e0' := hsc3.tal.c0
                        have y0' := hsc3.tal.fz 0
                        have hk4 := chg_set w2 ⟨W.heap.size + 1, 0, none⟩ (.int .i64 ((g + 1 : Nat) : Int))
                        have hsc4 := hsc3.tally (hsc3.tal.set0 (g + 1)) hk4
                        have hx4 := Own.chg hx hk4 (fun q hq hqq => by have := (hx.lt q hq).1; have hq2 : q = W.heap.size + 1 := hqq; omega)
                        obtain ⟨Ax, nx, cx, rfl, _⟩ := own_shape hx
                        have HSC4 := Lib.hid hsc4
                        have HX4 := Lib.hid hx4
                        have hsz4 := hsc4.size
                        clear hx hb2 hsc3 hsc4 hx4 hk4
                        go_wp2_with (at_builtin; refine wpList_app_txt' _ rfl _ _ rfl (W.heap.size + 2) _ vs rfl HSC4.out.fnd.out Ax nx cx _ _ (by rfl) _ rfl (by simp [World.setCell]) hsz4 hvl ?_)
                        intro o' w5 ho5 hg5 hl5
                        have HSC5 := Lib.hid (HSC4.out.found (w0 := wr) hWw HOS.out HX4.out ho5 hg5 hl5)
                        clear ho5 hg5 hl5
                        go_wp2_with fail
                        go_roundw
                        case rel => exact ⟨m + 1 + t, vs ++ [.slice Ax nx cx], O ++ [X], g + 1, b, lo, n, by omega, by go_num, HAT3, HSC5.out⟩
                        case measure => simp [intOf]; omega
                · have hb := noflag_of.2 hf
                  have HNF' := Lib.hid (fun j (h0 : m + 1 ≤ j) (hj : j < p + 1) => (show nth8 l j ≠ 126 from by
                    rcases Nat.lt_or_ge j p with h | h
                    · exact HNF.out j h0 h
                    · have : j = p := by omega
                      subst this; exact hf))
                  go_wp2_with fail
                  go_round
                  case rel => exact ⟨p + 1, by omega, by omega, by go_num, HNF'⟩
                  case measure => simp [intOf]; omega
              · obtain rfl : p = l.length := by omega
                have HEND := Lib.hid (at_end HAT2.out hlt HNF.out)
                go_wp2_with fail
                go_region
                all_goals go_wp2_with fail
                all_goals exact bodyPost_ret (v := .tuple #[_, .agg #[.int .i64 g, .int .i64 b, .int .i64 lo, .int .i64 n]]) (by simp [results, Try.results19, go_sem, r0, r1, r2, r3]) rfl (gives_scan HSC2.out HEND.out.1 HEND.out.2.1 HEND.out.2.2.1 HEND.out.2.2.2.1 HEND.out.2.2.2.2 (chg_drew ((((chg_set _ ⟨W.heap.size, 0, none⟩ _).trans (chg_set _ ⟨W.heap.size, 1, none⟩ _)).trans (chg_set _ ⟨W.heap.size, 2, none⟩ _)).trans (chg_set _ ⟨W.heap.size, 3, none⟩ _))))
          · obtain rfl : m = l.length := by omega
            have HEND := Lib.hid (HAT2.out.2 rfl)
            go_wp2_with fail
            go_region
            all_goals go_wp2_with fail
            all_goals exact bodyPost_ret (v := .tuple #[_, .agg #[.int .i64 g, .int .i64 b, .int .i64 lo, .int .i64 n]]) (by simp [results, Try.results19, go_sem, r0, r1, r2, r3]) rfl (gives_scan HSC2.out HEND.out.1 HEND.out.2.1 HEND.out.2.2.1 HEND.out.2.2.2.1 HEND.out.2.2.2.2 (chg_drew ((((chg_set _ ⟨W.heap.size, 0, none⟩ _).trans (chg_set _ ⟨W.heap.size, 1, none⟩ _)).trans (chg_set _ ⟨W.heap.size, 2, none⟩ _)).trans (chg_set _ ⟨W.heap.size, 3, none⟩ _)))))
end Go.Proofs.Ytfieinajkkcelaa.Def
