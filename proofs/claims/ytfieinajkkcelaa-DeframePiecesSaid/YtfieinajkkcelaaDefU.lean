
/- Layer 5 (deframe): the law on bytes fed in pieces. -/
import Derived.Test.YtfieinajkkcelaaDefT
attribute [local go_sem ↓] Go.wp_at_zero Go.wp_at_succ
namespace Go.Proofs.Ytfieinajkkcelaa.Def
open Go.RowKit Go.Proofs.Ytfieinajkkcelaa.Mem Go.Proofs.Ytfieinajkkcelaa.Oct Go.Proofs.Ytfieinajkkcelaa.Pkt Go.Proofs.Ytfieinajkkcelaa.DefM Go.Proofs.Ytfieinajkkcelaa.FrmM

/-- a slice of ints that came in -/
def Ints (w : World) (B : Nat) (A : Option Addr) (zs : List Int) : Prop :=
  0 < zs.length → ∃ b off, A = some ⟨b, off, none⟩ ∧ b < B ∧ ∀ i, i < zs.length → w.cell? ⟨b, off + i, none⟩ = some (.int .i64 (zs.getD i 0))
theorem Ints.below {w w' : World} {B C : Nat} {A : Option Addr} {zs : List Int} (h : Ints w B A zs) (hb : Below C w w') (hC : B ≤ C) : Ints w' B A zs := by
  intro hp
  obtain ⟨b, off, hA, hb', hc⟩ := h hp
  exact ⟨b, off, hA, hb', fun i hi => (hb.cell (p := ⟨b, off + i, none⟩) (Nat.lt_of_lt_of_le hb' hC)).trans (hc i hi)⟩

set_option maxHeartbeats 16000000 in
/-- DeframePieces -/
theorem DeframePieces_any (A C : Option Addr) (ca cc : Nat) (l : List UInt8) (zs : List Int) (W : World) (hA : Bytes W W.heap.size A l) (hca : l.length ≤ ca) (hma : ca ≤ maxLen) (hC : Ints W W.heap.size C zs) (hcc : zs.length ≤ cc) (hmc : cc ≤ maxLen) :
    Calls Try.prog 6 #[.slice A l.length ca, .slice C zs.length cc] W fun e W' => e = .returned (.bool true) ∧ Below W.heap.size W W' := by
  have hll : l.length ≤ maxLen := Nat.le_trans hca hma
  have hlt : zs.length ≤ maxLen := Nat.le_trans hcc hmc
  unfold maxLen at hll hlt
  by_cases hgo : l.length ≤ 2000 ∧ zs.length ≤ 50
  case neg =>
    have hx : 2000 < l.length ∨ (¬ 2000 < l.length ∧ 50 < zs.length) := by omega
    clear hgo hca hma hcc hmc
    rcases hx with hx | ⟨hx, hy⟩
    · have hlI : (2000 : Int) < (l.length : Int) := by omega
      go_enter Try.func6, Try.ntmps6
      go_wp2_with fail
      refine (live_any _).mono ?_
      rintro e w7 ⟨rfl, hb7⟩
      go_wp2
      go_ret
      exact ⟨rfl, hb7⟩
    · have hlI : ¬ (2000 : Int) < (l.length : Int) := by omega
      have hlJ : (50 : Int) < (zs.length : Int) := by omega
      go_enter Try.func6, Try.ntmps6
      go_wp2_with fail
      refine (live_any _).mono ?_
      rintro e w7 ⟨rfl, hb7⟩
      go_wp2
      go_ret
      exact ⟨rfl, hb7⟩
  obtain ⟨h2000, h50⟩ := hgo
  have hlI : ¬ ((2000 : Int) < (l.length : Int)) := by omega
  have hlJ : ¬ ((50 : Int) < (zs.length : Int)) := by omega
  have HCA := Lib.hid hca
  have HL := Lib.hid h2000
  have hol := run_len l St0
  obtain ⟨⟨SR, OR⟩, hR⟩ : ∃ R, DefM.run St0 l = R := ⟨_, rfl⟩
  have HR := Lib.hid hR
  rw [hR] at hol
  have HOL := Lib.hid (show OR.length ≤ 1000000 by simp only at hol; omega)
  clear hca hma hcc hmc hll hlt hR hol
  go_enter Try.func6, Try.ntmps6
  go_wp2_with fail
  refine (Crc.New_any _).mono ?_
  rintro e w1 ⟨tb, rfl, htab, htb0, htb1, hb1⟩
  have HTAB := Lib.hid htab
  have HB1 := Lib.hid hb1
  clear htab hb1
  go_wp2_with fail
  refine (New_any tb w1 HTAB.out htb1).mono ?_
  rintro e w2 ⟨s, rfl, hs1, hs2, hSs, hb2⟩
  have HSS := Lib.hid hSs
  have HB2 := Lib.hid hb2
  have HT2 := Lib.hid (HTAB.out.below hb2 htb1)
  have htb2 : tb < w2.heap.size := Nat.lt_of_lt_of_le htb1 hb2.size
  clear hSs hb2
  go_wp2_with fail
  refine (New_any tb w2 HT2.out htb2).mono ?_
  rintro e w3 ⟨u, rfl, hu1, hu2, hSu, hb3⟩
  have hE := env_new HT2.out htb2 hb3 hu1 hu2
  have hB3 := below_next (below_next HB1.out HB2.out) hb3
  have hWu : W.heap.size ≤ u := by have := HB1.out.size; have := HB2.out.size; omega
  have HF := Lib.hid (Feed_any u tb A ca l (.slice none 0 0) St0 w3 hE hSu (Own.nil _ _ _) ok0 (by unfold total St0; simp only; omega) (RestAt.of_bytes (hA.below hB3 (Nat.le_refl _)) hB3.size (fun g hg => ⟨by omega, by simp [Value.ownBlock]⟩)))
  have HB3 := Lib.hid hB3
  have HSS3 := Lib.hid (HSS.out.chg hs2 (chg_below hb3) (by simp))
  have hs3 : s < w3.heap.size := Nat.lt_of_lt_of_le hs2 hb3.size
  have htb3 : tb < w3.heap.size := Nat.lt_of_lt_of_le htb2 hb3.size
  have HT3 := Lib.hid (HT2.out.below hb3 htb2)
  clear hE hB3 hSu hb3
  go_wp2_with fail
  refine HF.out.mono ?_
  rintro e w4 ⟨vw, oal, val, rfl, hI⟩
  rw [HR.out] at hI
  have hsz4 := hI.chg.size
  have hsu : s ≠ u := by omega
  have htu : tb ≠ u := by omega
  have hts : tb ≠ s := by omega
  have hWs : W.heap.size ≤ s := by have := HB1.out.size; omega
  have HB4 := Lib.hid (below_feed hI HB3.out HB3.out.size hWu)
  have hS4 := HSS3.out.chg hs3 hI.chg (fun h => by rcases h with h | h; exact hsu h; simp [Value.ownBlock] at h)
  have hT4 := tab_chg HT3.out hI.chg htb3 (fun h => by rcases h with h | h; exact htu h; simp [Value.ownBlock] at h)
  obtain ⟨Aal, cal, rfl, hal1, hal2, hal3⟩ := textsP_row (p := fun g => g ≠ s) hI.out hI.len (fun i hi => by
    obtain ⟨e, e1, e2⟩ := hI.txt i hi
    exact ⟨e, e1, e2.chg (chg_below (Below.refl _ _)) (by simp) (fun g _ hp => by have := hp.1; omega)⟩) (fun g hg => by have := (hI.out.lt g hg).1; omega)
  have HS4 := Lib.hid hS4
  have HT4 := Lib.hid hT4
  have HU4 := Lib.hid hI.scan
  have HAL4 := Lib.hid hal3
  have hu4 : u < w4.heap.size := Nat.lt_of_lt_of_le hu2 hsz4
  have hs4 : s < w4.heap.size := Nat.lt_of_lt_of_le hs3 hsz4
  have htb4 : tb < w4.heap.size := Nat.lt_of_lt_of_le htb3 hsz4
  clear hI hS4 hT4 hal1 hal2 hal3 hsz4 htb0 hs1 hu1
  go_wp2_with fail
  refine (Pkt.Copy_any A l.length ca l _ rfl (hA.later HB4.out) (by have := HL.out; omega)).mono ?_
  rintro e w5 ⟨v5, rfl, ho5, hb5⟩
  obtain ⟨A5, c5, rfl, hc5, hm5, _⟩ := ho5.shape
  have hpl : PL W s tb u vw SR Aal OR l 0 (.slice none 0 0) (.slice none 0 0) St0 [] [] A5 w5 :=
    { below := below_next HB4.out hb5, hs := Nat.lt_of_lt_of_le hs4 hb5.size, hsW := hWs, scan := HS4.out.chg hs4 (chg_below hb5) (by simp), own := Own.nil _ _ _, vge := fun g hg => by simp [Value.ownBlock] at hg, vs_ := by simp [Value.ownBlock],
      row := OwnV.nil _ _ _, len := rfl, rs := by simp [Value.ownBlock], rv := fun g hg => by simp [Value.ownBlock] at hg, txt := fun i hi => by simp at hi, hp := Nat.zero_le _,
      rest := by rw [List.drop_zero]; exact RestAt.own ho5 (fun g hg _ => ⟨by omega, by simp [Value.ownBlock], by simp [Value.ownBlock]⟩),
      tbl := Nat.lt_of_lt_of_le htb4 hb5.size, ptb := ⟨hts, by simp [Value.ownBlock], by simp [Value.ownBlock]⟩, ul := Nat.lt_of_lt_of_le hu4 hb5.size, ptu := ⟨fun h => hsu h.symm, by simp [Value.ownBlock], by simp [Value.ownBlock]⟩,
      tab := HT4.out.below hb5 htb4, oth := HU4.out.chg hu4 (chg_below hb5) (by simp), all := HAL4.out.step (chg_below hb5) (by simp) (fun g _ hp => ⟨hp, by simp [Value.ownBlock], by simp [Value.ownBlock]⟩), ok := ok0, run := by rw [List.take_zero]; rfl }
  have HPL := Lib.hid hpl
  have HC5 := Lib.hid hc5
  clear hpl ho5 hb5 hm5 hc5 hu4 hs4 htb4 hs3 htb3 hs2 htb2 hu2 htb1 hsu htu hts
  go_wp2_with fail
  go_loopw [9, 10, 11] (fun ol r i wr => ∃ (k p nr cr : Nat) (Ar : Option Addr) (v : Value) (S : St) (O : List (List UInt8)) (xs : List Value), k ≤ zs.length ∧ i = .int .i64 k ∧ r = .slice Ar nr cr ∧ nr ≤ cr ∧ Hid (nr = l.length - p) ∧ PL W s tb u vw SR Aal OR l p v ol S O xs Ar wr) (fun _ _ i _ => zs.length - (intOf i).toNat)
  case atStart => exact ⟨0, 0, l.length, c5, A5, .slice none 0 0, St0, [], [], by omega, rfl, rfl, HC5.out, Lib.hid rfl, HPL.out⟩
  case round =>
    obtain ⟨k, p, nr, cr, Ar, v, S, O, xs, hk, rfl, rfl, hcr, HNR, hpl⟩ := hrel
    have HPL2 := Lib.hid hpl
    have hnr : nr ≤ 2000 := by have := HNR.out; omega
    have hOx : O.length ≤ 2000 := by
      have h1 := run_len (l.take p) St0
      rw [hpl.run] at h1
      simp only [List.length_take] at h1
      omega
    have htS : total S ≤ 2000 := by
      have h1 := run_total (l.take p) St0
      rw [hpl.run] at h1
      simp only [List.length_take, total, St0] at h1 ⊢
      omega
    have HFD := Lib.hid (fun (c cap : Nat) (hc : c ≤ nr) => Feed_any s tb Ar cap ((l.drop p).take c) v S wr hpl.env hpl.scan hpl.own hpl.ok (by simp; omega) ((hpl.rest.take (k := c) (by simp; have := HNR.out; omega)).mono (fun g _ hp => ⟨hp.1, hp.2.1⟩)))
    have HXL := Lib.hid (show xs.length ≤ 2000 by rw [hpl.len]; exact hOx)
    have hszW := hpl.below.size
    obtain ⟨Ao, no, co, rfl, _⟩ := ownV_shape hpl.row
    clear hpl
    by_cases hlt : k < zs.length
    · obtain ⟨bc, off, rfl, _, hcell⟩ := (hC.below HPL2.out.below (Nat.le_refl _)) (by omega)
      replace hcell := hcell k hlt
      have hltI : (k : Int) < (zs.length : Int) := by omega
      generalize zs.getD k 0 = z at hcell
      by_cases hz : 0 ≤ z ∧ z ≤ nr
      · obtain ⟨c, rfl⟩ : ∃ c : Nat, z = c := ⟨z.toNat, by omega⟩
        have hc : c ≤ nr := by omega
        have hcI : (c : Int) ≤ (nr : Int) := by omega
        have hcI0 : ¬ ((c : Int) < 0) := by omega
        have hcI1 : ¬ ((nr : Int) < (c : Int)) := by omega
        have hcI2 : (c : Int) ≤ (cr : Int) := by omega
        have hnI : (nr : Int) ≤ (cr : Int) := by omega
        clear hz
        have hft := HFD.out c cr hc
        have hlen : ((l.drop p).take c).length = c := by have := HNR.out; simp; omega
        rw [hlen] at hft
        have HFT := Lib.hid hft
        have HHC := Lib.hid hc
        have HCR := Lib.hid hcr
        clear hft hlen HFD hc hcr
        go_wp2_with fail
        refine HFT.out.mono ?_
        rintro e w6 ⟨v6, o6, vs6, rfl, hI6⟩
        have hrow6 : OwnV 22 w6 W.heap.size (.slice Ao no co) xs := OwnV.chg HPL2.out.row hI6.chg (fun g hg hq => by
          rcases hq with h | h
          · exact HPL2.out.rs (h ▸ hg)
          · exact HPL2.out.rv g hg h)
        have HI6 := Lib.hid hI6
        have hone := one_of_txt hI6.txt
        have hvl6 : vs6.length ≤ 100000 := by
          rw [hI6.len]
          have h1 := run_len ((l.drop p).take c) S
          simp only [List.length_take, List.length_drop] at h1
          omega
        have hsz6 : W.heap.size ≤ w6.heap.size := Nat.le_trans hszW hI6.chg.size
        have hxl := HXL.out
        have HROW6 := Lib.hid hrow6
        have HONE := Lib.hid hone
        obtain ⟨Ax, nx, cx, rfl, _⟩ := ownV_shape hI6.out
        clear hI6 hrow6 hone
        go_wp2_with (at_builtin; refine wpList_app_vals _ rfl _ _ rfl W.heap.size wr.heap.size _ xs rfl HROW6.out _ vs6 rfl HI6.out.out HONE.out hsz6 (by omega) ?_)
        intro ol7 w7 ho7 hg7 hl7
        have hpl7 := fun Ar' h => HPL2.out.step (c := c) (by have := HNR.out; have := HHC.out; omega) HI6.out ho7 hg7 hl7 Ar' h
        have hcell7 : w7.cell? ⟨bc, off + k, none⟩ = some (.int .i64 (c : Int)) := by
          have hb7 := (hpl7 (Ar.map (fun x => x.add c)) (fun _ => rfl)).below
          have hbx := HPL2.out.below
          obtain ⟨bc', off', he, hbl, hcc⟩ := hC (by omega)
          cases he
          have h1 := hcc k hlt
          rw [← hcell, hb7.cell (p := ⟨bc, off + k, none⟩) hbl, hbx.cell (p := ⟨bc, off + k, none⟩) hbl]
        have HP7 := Lib.hid hpl7
        have HNR7 := Lib.hid (show nr - c = l.length - (p + c) by have := HNR.out; omega)
        clear hpl7 ho7 hg7 hl7 hcell
        by_cases hcn : c < nr
        · obtain ⟨br, offr, rfl, _, _, _⟩ := HPL2.out.rest (by have := HNR.out; simp; omega)
          have hcr' : ¬ cr = c := by have := HCR.out; omega
          have hcr'' : ¬ c = cr := by have := HCR.out; omega
          have HCR7 := Lib.hid (show nr - c ≤ cr - c by have := HCR.out; omega)
          go_wp2_with fail
          go_roundw
          case rel => exact ⟨k + 1, p + c, nr - c, cr - c, some ⟨br, offr + c, none⟩, v6, _, _, _, by omega, by go_num, rfl, HCR7.out, HNR7, HP7.out _ (fun _ => by simp [Addr.add_lit])⟩
          case measure => simp [intOf]; omega
        · have hcn' : c = nr := by have := HHC.out; omega
          have HCR7 := Lib.hid (show nr - c ≤ cr - c by have := HCR.out; omega)
          have hnot : ¬ c < l.length - p := by have := HNR.out; omega
          have HNOT := Lib.hid hnot
          subst hcn'
          clear hcn hnot
          go_wp2_with fail
          all_goals (
            go_roundw
            case rel => exact ⟨k + 1, p + c, _, _, _, v6, _, _, _, by omega, by go_num, rfl, by first | omega | simp, Lib.hid (by have := HNR7.out; omega), HP7.out _ (fun h => absurd h HNOT.out)⟩
            case measure => simp [intOf]; omega)
      · have hx : z < 0 ∨ (¬ z < 0 ∧ (nr : Int) < z) := by omega
        clear hz
        rcases hx with hx | ⟨hx, hy⟩
        all_goals (
          go_wp2_with fail
          go_roundw
          case rel => exact ⟨k + 1, p, nr, cr, Ar, v, S, O, xs, by omega, by go_num, rfl, hcr, HNR, HPL2.out⟩
          case measure => simp [intOf]; omega)
    · obtain rfl : k = zs.length := by omega
      have hft := HFD.out nr cr (Nat.le_refl _)
      have hdr : (l.drop p).take nr = l.drop p := by rw [HNR.out]; exact List.take_of_length_le (by simp)
      have hlen : ((l.drop p).take nr).length = nr := by have := HNR.out; simp; omega
      rw [hlen] at hft
      have HFT := Lib.hid hft
      clear hft hlen HFD
      go_wp2_with fail
      refine HFT.out.mono ?_
      rintro e w6 ⟨v6, o6, vs6, rfl, hI6⟩
      have hrow6 : OwnV 22 w6 W.heap.size (.slice Ao no co) xs := OwnV.chg HPL2.out.row hI6.chg (fun g hg hq => by
        rcases hq with h | h
        · exact HPL2.out.rs (h ▸ hg)
        · exact HPL2.out.rv g hg h)
      have HI6 := Lib.hid hI6
      have hone := one_of_txt hI6.txt
      have hvl6 : vs6.length ≤ 100000 := by
        rw [hI6.len]
        have h1 := run_len ((l.drop p).take nr) S
        simp only [List.length_take, List.length_drop] at h1
        omega
      have hsz6 : W.heap.size ≤ w6.heap.size := Nat.le_trans hszW hI6.chg.size
      have hxl := HXL.out
      have HROW6 := Lib.hid hrow6
      have HONE := Lib.hid hone
      obtain ⟨Ax, nx, cx, rfl, _⟩ := ownV_shape hI6.out
      clear hI6 hrow6 hone
      go_wp2_with (at_builtin; refine wpList_app_vals _ rfl _ _ rfl W.heap.size wr.heap.size _ xs rfl HROW6.out _ vs6 rfl HI6.out.out HONE.out hsz6 (by omega) ?_)
      intro ol7 w7 ho7 hg7 hl7
      have hpl7 := HPL2.out.step (c := nr) (by have := HNR.out; omega) HI6.out ho7 hg7 hl7 Ar (fun h => by have := HNR.out; omega)
      have hpe : p + nr = l.length := by have := HNR.out; have := HPL2.out.hp; omega
      rw [hpe] at hpl7
      generalize (DefM.run S ((l.drop p).take nr)).1 = S7 at hpl7
      generalize O ++ (DefM.run S ((l.drop p).take nr)).2 = O7 at hpl7
      generalize xs ++ vs6 = xs7 at hpl7
      have hrun7 := hpl7.run
      rw [List.take_length, HR.out] at hrun7
      injection hrun7 with e1 e2
      subst e1 e2
      have HPL7 := Lib.hid hpl7
      obtain ⟨A7, c7, rfl, _, _, ht7⟩ := textsP_row (p := fun g => g ≠ s) hpl7.row hpl7.len (fun i hi => by
        obtain ⟨e, h1, h2⟩ := hpl7.txt i hi
        exact ⟨e, h1, h2.chg (chg_below (Below.refl _ _)) (by simp) (fun g _ hp => hp.1)⟩) (fun g hg h => hpl7.rs (h ▸ hg))
      have HT7 := Lib.hid ht7.texts
      have HAL7 := Lib.hid hpl7.all.texts
      have hee : (OR == OR) = true := beq_self_eq_true OR
      have HEE := Lib.hid hee
      clear hpl7 ho7 hg7 hl7 ht7 hee
      go_wp2_with fail
      refine (refSameAll_any A7 Aal OR.length OR.length c7 cal OR OR _ _ w7 rfl rfl HT7.out HAL7.out (Nat.le_refl _) (Nat.le_refl _) HOL.out).mono ?_
      rw [HEE.out]
      rintro e w8 ⟨rfl, hd8⟩
      have hb78 := hd8.below w7.heap.size
      have HB78 := Lib.hid hb78
      clear hd8 hb78
      go_wp2_with fail
      refine (Seen_any s tb v6 SR w8 (HPL7.out.scan.chg HPL7.out.hs (chg_below HB78.out) (by simp)) (Nat.lt_of_lt_of_le HPL7.out.hs HB78.out.size)).mono ?_
      rintro e w9 ⟨rfl, hb9⟩
      have HB79 := Lib.hid (below_next HB78.out hb9)
      clear hb9
      go_wp2_with fail
      refine (Seen_any u tb vw SR w9 (HPL7.out.oth.chg HPL7.out.ul (chg_below HB79.out) (by simp)) (Nat.lt_of_lt_of_le HPL7.out.ul HB79.out.size)).mono ?_
      rintro e w10 ⟨rfl, hb10⟩
      have HB710 := Lib.hid (below_next HB79.out hb10)
      clear hb10
      go_wp2_with fail
      refine (Reset_any s tb v6 SR w10 (HPL7.out.scan.chg HPL7.out.hs (chg_below HB710.out) (by simp))).mono ?_
      rintro e w11 ⟨rfl, hs11, hk11⟩
      have hK : Chg (fun g => g = s) w7 w11 := ((chg_below HB710.out).mono (fun _ h => h.elim)).trans hk11
      have hb11 : Below W.heap.size W w11 := Chg.below HPL7.out.below hK HPL7.out.below.size (fun g hg => by omega)
      have hsl : s < w11.heap.size := Nat.lt_of_lt_of_le HPL7.out.hs hK.size
      have htl : tb < w11.heap.size := Nat.lt_of_lt_of_le HPL7.out.tbl hK.size
      have hul : u < w11.heap.size := Nat.lt_of_lt_of_le HPL7.out.ul hK.size
      have hE : Env s tb w11 (.slice none 0 0) := ⟨hsl, htl, HPL7.out.ptb.1, by simp [Value.ownBlock], by simp [Value.ownBlock], tab_chg HPL7.out.tab hK HPL7.out.tbl HPL7.out.ptb.1⟩
      have hF12 := Feed_any s tb A ca l (.slice none 0 0) St0 w11 hE hs11 (Own.nil _ _ _) ok0 (by have := HL.out; unfold total St0; simp only; omega) (RestAt.of_bytes (hA.below hb11 (Nat.le_refl _)) hb11.size (fun g hg => ⟨by omega, by simp [Value.ownBlock]⟩))
      rw [HR.out] at hF12
      have HF12 := Lib.hid hF12
      have HAL11 := Lib.hid (HPL7.out.all.step (r := fun g => g ≠ s) hK (fun g _ hp => hp.1) (fun g _ hp => hp.1))
      have HU11 := Lib.hid (HPL7.out.oth.chg HPL7.out.ul hK HPL7.out.ptu.1)
      have HB11 := Lib.hid hb11
      have hus : u ≠ s := HPL7.out.ptu.1
      clear hF12 hE hs11 hK hb11 hk11 htl
      go_wp2_with fail
      refine HF12.out.mono ?_
      rintro e w12 ⟨v12, o12, vs12, rfl, hI12⟩
      have hcl12 := hI12.chg
      have HB12 := Lib.hid (below_feed hI12 HB11.out HB11.out.size hWs)
      have HU12 := Lib.hid (HU11.out.chg hul hcl12 (fun h => by rcases h with h | h; exact hus h; simp [Value.ownBlock] at h))
      have HAL12 := Lib.hid (TextsP.texts (HAL11.out.step (r := fun g => g ≠ s) hcl12 (fun g _ hp h => by rcases h with h | h; exact hp h; simp [Value.ownBlock] at h) (fun g _ hp => hp)))
      have HSC12 := Lib.hid hI12.scan
      have hsl12 : s < w12.heap.size := Nat.lt_of_lt_of_le hsl hcl12.size
      have hul12 : u < w12.heap.size := Nat.lt_of_lt_of_le hul hcl12.size
      obtain ⟨A12, c12, rfl, _, _, ht12, _⟩ := hI12.texts
      have HT12 := Lib.hid ht12
      clear hI12 hcl12 ht12 hsl hul
      go_wp2_with fail
      refine (refSameAll_any A12 Aal OR.length OR.length c12 cal OR OR _ _ w12 rfl rfl HT12.out HAL12.out (Nat.le_refl _) (Nat.le_refl _) HOL.out).mono ?_
      rw [HEE.out]
      rintro e w13 ⟨rfl, hd13⟩
      have HB13 := Lib.hid (hd13.below w12.heap.size)
      clear hd13
      go_wp2_with fail
      refine (Seen_any s tb v12 SR w13 (HSC12.out.chg hsl12 (chg_below HB13.out) (by simp)) (Nat.lt_of_lt_of_le hsl12 HB13.out.size)).mono ?_
      rintro e w14 ⟨rfl, hb14⟩
      have HB14 := Lib.hid (below_next HB13.out hb14)
      clear hb14
      go_wp2_with fail
      refine (Seen_any u tb vw SR w14 (HU12.out.chg hul12 (chg_below HB14.out) (by simp)) (Nat.lt_of_lt_of_le hul12 HB14.out.size)).mono ?_
      rintro e w15 ⟨rfl, hb15⟩
      have HB15 := Lib.hid (below_next HB14.out hb15)
      clear hb15
      go_wp2_with fail
      refine (live_any _).mono ?_
      rintro e w16 ⟨rfl, hb16⟩
      go_wp2
      go_ret
      exact ⟨rfl, below_next HB12.out (below_next HB15.out hb16)⟩
end Go.Proofs.Ytfieinajkkcelaa.Def
