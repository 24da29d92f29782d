
/- Layer 5 (deframe): the law on what is found, and seen. -/
import Derived.Test.YtfieinajkkcelaaDefC
attribute [local go_sem ↓] Go.wp_at_zero Go.wp_at_succ
namespace Go.Proofs.Ytfieinajkkcelaa.Def
open Go.RowKit Go.Proofs.Ytfieinajkkcelaa.Mem Go.Proofs.Ytfieinajkkcelaa.Oct Go.Proofs.Ytfieinajkkcelaa.Pkt Go.Proofs.Ytfieinajkkcelaa.DefM Go.Proofs.Ytfieinajkkcelaa.FrmM

set_option maxHeartbeats 8000000 in
/-- DeframeFinds -/
theorem DeframeFinds_any (A : Option Addr) (ca : Nat) (l : List UInt8) (W : World) (hA : Bytes W W.heap.size A l) (hca : l.length ≤ ca) (hma : ca ≤ maxLen) :
    Calls Try.prog 4 #[.slice A l.length ca] W fun e W' => e = .returned (.bool true) ∧ Below W.heap.size W W' := by
  have hll : l.length ≤ maxLen := Nat.le_trans hca hma
  unfold maxLen at hll
  by_cases h2000 : l.length ≤ 2000
  · have hlI : ¬ ((2000 : Int) < (l.length : Int)) := by omega
    have HSN := Lib.hid (fun w h => Scan_any A l.length ca l w rfl hca h (by omega))
    have HAL := Lib.hid (fun (tb : Nat) w ht htb h => All_any tb A l.length ca l w rfl ht htb h (by omega))
    have HFD := Lib.hid (fun (s tb : Nat) w he hs h => Feed_any s tb A ca l (.slice none 0 0) St0 w he hs (Own.nil _ _ _) ok0 (by unfold total St0; simp only; omega) h)
    have hol := run_len l St0
    obtain ⟨⟨S, O⟩, hR⟩ : ∃ R, run St0 l = R := ⟨_, rfl⟩
    rw [hR] at HSN HAL HFD hol
    have HOL := Lib.hid (show O.length ≤ 1000000 by simp only at hol; omega)
    clear hol hR hll hca hma h2000
    go_enter Try.func4, Try.ntmps4
    go_wp2_with fail
    refine (Crc.New_any _).mono ?_
    rintro e w1 ⟨tb, rfl, htab, htb0, htb1, hb1⟩
    have HB1 := Lib.hid hb1
    have HTAB := Lib.hid htab
    clear htab hb1
    go_wp2_with fail
    refine (New_any tb w1 HTAB.out htb1).mono ?_
    rintro e w2 ⟨s, rfl, h1, h2, hS, hb2⟩
    have hE := env_new HTAB.out htb1 hb2 h1 h2
    have HF := Lib.hid (HFD.out s tb w2 hE hS (RestAt.of_bytes (hA.below (below_next HB1.out hb2) (Nat.le_refl _)) (below_next HB1.out hb2).size (fun g hg => ⟨by have := HB1.out.size; omega, by simp [Value.ownBlock]⟩)))
    have HB2 := Lib.hid (below_next HB1.out hb2)
    have HT2 := Lib.hid (HTAB.out.below hb2 htb1)
    have htb2 : tb < w2.heap.size := Nat.lt_of_lt_of_le htb1 hb2.size
    have hWs : W.heap.size ≤ s := Nat.le_trans HB1.out.size h1
    have hst : s ≠ tb := by omega
    clear hE hS hb2 HFD
    go_wp2_with fail
    refine HF.out.mono ?_
    rintro e w3 ⟨v, o, vs, rfl, hI⟩
    have HB3 := Lib.hid (below_feed hI HB2.out HB2.out.size hWs)
    have HT3 := Lib.hid (tab_chg HT2.out hI.chg htb2 (fun h => by rcases h with h | h; exact hst h.symm; simp [Value.ownBlock] at h))
    have htb3 : tb < w3.heap.size := Nat.lt_of_lt_of_le htb2 hI.chg.size
    have hs3 : s < w3.heap.size := Nat.lt_of_lt_of_le h2 hI.chg.size
    have HSC3 := Lib.hid hI.scan
    obtain ⟨Al, cl, rfl, hl1, hl2, htl, _⟩ := hI.texts
    have HTL := Lib.hid htl
    clear hI htl hst h1 h2 htb0 hl1 hl2
    go_wp2_with fail
    refine (HSN.out _ (hA.later HB3.out)).mono ?_
    rintro e w4 ⟨Am, cm, rfl, hm1, hm2, htm, hb4⟩
    obtain ⟨w5, hw5⟩ : ∃ w5, w5 = w4.alloc (.cells #[.int .i64 S.good, .int .i64 S.bad, .int .i64 S.long, .int .i64 S.noise] 37) := ⟨_, rfl⟩
    have hb45 : Below w4.heap.size w4 w5 := by rw [hw5]; exact below_alloc (Below.refl _ _) _
    have hb35 := below_next hb4 hb45
    have hkeep : ∀ w', Below w5.heap.size w5 w' → (w'.cell? ⟨w4.heap.size, 0, none⟩ = some (.int .i64 S.good) ∧ w'.cell? ⟨w4.heap.size, 1, none⟩ = some (.int .i64 S.bad) ∧ w'.cell? ⟨w4.heap.size, 2, none⟩ = some (.int .i64 S.long) ∧ w'.cell? ⟨w4.heap.size, 3, none⟩ = some (.int .i64 S.noise)) := by
      intro w' hb'
      have key : ∀ o, w'.cell? ⟨w4.heap.size, o, none⟩ = w5.cell? ⟨w4.heap.size, o, none⟩ := fun o => (bcell hb').1 _ _ (by rw [hw5]; simp)
      rw [hw5] at key
      refine ⟨(key _).trans ?_, (key _).trans ?_, (key _).trans ?_, (key _).trans ?_⟩ <;> simp [go_sem]
    have HK := Lib.hid hkeep
    have hS := hkeep w5 (Below.refl _ _)
    have HTL5 := Lib.hid (HTL.out.later hb35)
    have HTM5 := Lib.hid (htm.later hb45)
    have HSC5 := Lib.hid (HSC3.out.chg hs3 (chg_below hb35) (by simp))
    have HT5 := Lib.hid (HT3.out.below hb35 htb3)
    have HS5 := Lib.hid (show s < w5.heap.size from Nat.lt_of_lt_of_le hs3 hb35.size)
    have HTB5 := Lib.hid (show tb < w5.heap.size from Nat.lt_of_lt_of_le htb3 hb35.size)
    have HB5 := Lib.hid (below_next HB3.out hb35)
    have hOO : (O == O) = true := beq_self_eq_true O
    have HOO := Lib.hid hOO
    clear hkeep hb4 hb45 hb35 htm hm1 hm2 htb1 htb2 htb3 hs3 hWs hOO
    go_wp2_with fail
    rw [← hw5]
    clear hw5
    go_region_held3 (fun w' => w'.cell? ⟨w4.heap.size, 0, none⟩ = some (.int .i64 S.good) ∧ w'.cell? ⟨w4.heap.size, 1, none⟩ = some (.int .i64 S.bad) ∧ w'.cell? ⟨w4.heap.size, 2, none⟩ = some (.int .i64 S.long) ∧ w'.cell? ⟨w4.heap.size, 3, none⟩ = some (.int .i64 S.noise))
      (first | exact hS10 | exact hS9 | exact hS8 | exact hS7 | exact hS6 | exact hS | go_keep)
      ((first
        | (go_at_call_of 18 (Value.slice Al O.length cl); refine (refSameAll_any Al Am O.length O.length cl cm O O w5.heap.size w5.heap.size w5.drew rfl rfl HTL5.out HTM5.out (Nat.le_refl _) (Nat.le_refl _) HOL.out).mono ?_; rw [HOO.out]; rintro e w6 ⟨rfl, hd6⟩
           have hb56 : Below w5.heap.size w5 w6 := below_undrew (hd6.below _)
           have hS6 := HK.out _ hb56)
        | (go_at_call 17; refine (Seen_any s tb v S w6 (HSC5.out.chg HS5.out (chg_below hb56) (by simp)) (Nat.lt_of_lt_of_le HS5.out hb56.size)).mono ?_; rintro e w7 ⟨rfl, hb7⟩
           have hb57 := below_next hb56 hb7
           have hS7 := HK.out _ hb57)
        | (go_at_call 20; refine (same_self _ _ _ _ w7).mono ?_; rintro e w8 ⟨rfl, hb8⟩
           have hb58 := below_next hb57 hb8
           have hS8 := HK.out _ hb58)
        | (go_at_call 21; refine (HAL.out tb w8 (HT5.out.below hb58 HTB5.out) (Nat.lt_of_lt_of_le HTB5.out hb58.size) (hA.later (below_next HB5.out hb58))).mono ?_; rintro e w9 ⟨A9, c9, rfl, _, _, ht9, hb9⟩
           have hb59 := below_next hb58 hb9
           have hS9 := HK.out _ hb59)
        | (go_at_call 18; refine (refSameAll_any A9 Am O.length O.length c9 cm O O w9.heap.size w9.heap.size w9 rfl rfl ht9 (HTM5.out.later hb59) (Nat.le_refl _) (Nat.le_refl _) HOL.out).mono ?_; rw [HOO.out]; rintro e w10 ⟨rfl, hd10⟩
           have hb510 := below_next hb59 (hd10.below _)
           have hS10 := HK.out _ hb510)
        | (go_at_call 12; refine (live_any w10).mono ?_; rintro e w11 ⟨rfl, hb11⟩
           have hb511 := below_next hb510 hb11
           have hS11 := HK.out _ hb511)
        | fail))
    all_goals (
      go_wp2_with fail
      go_ret
      exact ⟨rfl, below_next HB5.out hb511⟩)
  · have hlI : (2000 : Int) < (l.length : Int) := by omega
    clear h2000 hca hma
    go_enter Try.func4, Try.ntmps4
    go_wp2_with fail
    refine (live_any _).mono ?_
    rintro e w7 ⟨rfl, hb7⟩
    go_wp2
    go_ret
    exact ⟨rfl, hb7⟩
end Go.Proofs.Ytfieinajkkcelaa.Def
