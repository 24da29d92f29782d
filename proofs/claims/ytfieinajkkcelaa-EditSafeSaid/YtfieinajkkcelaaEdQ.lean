
/- Layer 6 (edit): slices.EqualFunc at texts; Forged, the code's and the document's. -/
import Derived.Test.YtfieinajkkcelaaEdP
import Derived.Test.YtfieinajkkcelaaDefS
import Derived.Test.YtfieinajkkcelaaSameAll
namespace Go.Proofs.Ytfieinajkkcelaa.Ed
open Go.RowKit Go.Proofs.Ytfieinajkkcelaa.Mem Go.Proofs.Ytfieinajkkcelaa.Oct Go.Proofs.Ytfieinajkkcelaa.Pkt Go.Proofs.Ytfieinajkkcelaa.Def Go.Proofs.Ytfieinajkkcelaa.DefM

set_option maxHeartbeats 4000000 in
theorem EqualFunc_any (A B : Option Addr) (n m ca cb : Nat) (ls ms : List (List UInt8)) (W : World) (hn : n = ls.length) (hm : m = ms.length) (hA : Texts W W.heap.size A ls) (hB : Texts W W.heap.size B ms) (hl : ls.length ≤ 900000) :
    Calls Try.prog 48 #[.slice A n ca, .slice B m cb, .func (.func 49) #[] #[]] W fun e W' => e = .returned (.bool (ls == ms)) ∧ W = W' := by
  subst hn hm
  by_cases hlen : ls.length = ms.length
  · have HL := Lib.hid hlen
    have hb : ((ls.length : Int) != (ms.length : Int)) = false := by rw [hlen]; simp
    have HA := Lib.hid hA
    have HB := Lib.hid hB
    clear hlen hA hB
    go_enter Try.func48, Try.ntmps48
    go_wp2
    go_loopw [7, 8, 9, 17] (fun _ _ _ i wr => ∃ k : Nat, k ≤ ls.length ∧ i = .int .i64 k ∧ Hid (SameT ls ms k) ∧ W = wr) (fun _ _ _ i _ => ls.length - (intOf i).toNat)
    case atStart => exact ⟨0, Nat.zero_le _, rfl, Lib.hid (fun j hj => by omega), rfl⟩
    case round =>
      obtain ⟨k, hk, rfl, HS, rfl⟩ := hrel
      by_cases hlt : k < ls.length
      · have hlt2 : k < ms.length := by have := HL.out; omega
        obtain ⟨b, off, A1, c1, rfl, _, hc, hx1, hy1, hz1⟩ := HA.out.at_ hlt
        obtain ⟨b', off', A2, c2, rfl, _, hc', hx2, hy2, hz2⟩ := HB.out.at_ hlt2
        have hlt' : (k : Int) < (ls.length : Int) := by omega
        have hlt2' : (k : Int) < (ms.length : Int) := by omega
        have HM := Lib.hid (Oct.Same_any A1 A2 c1 c2 (nthT ls k) (nthT ms k) _ _ W hz1 hz2)
        clear hz1 hz2 hx1 hx2 hy1 hy2
        cases he : nthT ls k == nthT ms k with
        | true =>
          have HS' := Lib.hid (show SameT ls ms (k + 1) from fun j hj => by
            rcases Nat.lt_or_ge j k with h | h
            · exact HS.out j h
            · obtain rfl : j = k := by omega
              exact eq_of_beq he)
          rw [he] at HM
          clear he
          go_wp2_with (go_at_call 49; refine HM.out.mono ?_; rintro e w' ⟨rfl, rfl⟩)
          go_roundw
          case rel => exact ⟨k + 1, by omega, by go_num, HS', trivial⟩
          case measure => simp [intOf]; omega
        | false =>
          have HN := Lib.hid (ne_of_texts he)
          rw [he] at HM
          clear he
          go_wp2_with (go_at_call 49; refine HM.out.mono ?_; rintro e w' ⟨rfl, rfl⟩)
          go_ret
          exact ⟨ret_bool HN.out.symm, rfl⟩
      · obtain rfl : k = ls.length := by omega
        have HE := Lib.hid (show (ls == ms) = true by rw [eq_of_texts HL.out HS.out]; exact beq_self_eq_true _)
        go_wp2_with fail
        go_ret
        exact ⟨ret_bool HE.out.symm, rfl⟩
  · have hne : (ls == ms) = false := by rw [beq_eq_false_iff_ne]; rintro rfl; exact hlen rfl
    have HN := Lib.hid hne
    have hb : ((ls.length : Int) != (ms.length : Int)) = true := by rw [bne_iff_ne]; omega
    clear hlen hne hA hB
    go_enter Try.func48, Try.ntmps48
    go_wp2
    go_ret
    exact ⟨ret_bool HN.out.symm, rfl⟩

/-- are bytes taken for what was not sent? -/
def forged (f w : List UInt8) : Bool := decide (0 < (run St0 w).2.length) && !((run St0 w).2 == (run St0 f).2)

set_option maxHeartbeats 4000000 in
theorem Forged_any (tb : Nat) (A B : Option Addr) (n m ca cb : Nat) (f w : List UInt8) (W : World) (hn : n = f.length) (hm : m = w.length) (ht : Crc.Tab W tb) (htb : tb < W.heap.size) (hA : Bytes W W.heap.size A f) (hB : Bytes W W.heap.size B w) (hf : f.length ≤ 900000) (hw : w.length ≤ 900000) :
    Calls Try.prog 31 #[.pointer (some ⟨tb, 0, none⟩), .slice A n ca, .slice B m cb] W (IsB W (forged f w)) := by
  have HF := Lib.hid (All_any tb B m cb w W hm ht htb hB hw)
  have HG := Lib.hid (fun w' (hb : Below W.heap.size W w') => All_any tb A n ca f w' hn (ht.below hb htb) (Nat.lt_of_lt_of_le htb hb.size) (hA.later hb) hf)
  have HD := Lib.hid (show forged f w = (decide (0 < (run St0 w).2.length) && !((run St0 w).2 == (run St0 f).2)) from rfl)
  have hln := run_len w St0
  have HLN := Lib.hid (show (run St0 w).2.length ≤ 900000 by omega)
  clear ht htb hA hB hf hw hn hm hln
  generalize (run St0 w).2 = x at HF HD HLN
  generalize (run St0 f).2 = y at HG HD
  go_enter Try.func31, Try.ntmps31
  go_wp2_with fail
  refine HF.out.mono ?_
  rintro e w1 ⟨A1, c1, rfl, h1, h2, hx, hb1⟩
  by_cases h0 : x.length = 0
  · have hI : (x.length : Int) = 0 := by omega
    rw [decide_eq_false (by omega), Bool.false_and] at HD
    have HB := Lib.hid hb1
    clear hx hb1 h1 h2
    go_wp2_with fail
    go_ret
    exact ⟨ret_bool HD.out.symm, HB.out⟩
  · have hI : (0 : Int) < (x.length : Int) := by omega
    rw [decide_eq_true (by omega), Bool.true_and] at HD
    have HB := Lib.hid hb1
    have HX := Lib.hid hx
    clear hx hb1 h1 h2
    go_wp2_with fail
    refine (HG.out w1 HB.out).mono ?_
    rintro e w2 ⟨A2, c2, rfl, h3, h4, hy, hb2⟩
    have HB2 := Lib.hid (below_next HB.out hb2)
    have HE := Lib.hid (EqualFunc_any A1 A2 x.length y.length c1 c2 x y w2 rfl rfl (HX.out.later hb2) hy HLN.out)
    clear hb2 hy h3 h4
    go_wp2_with fail
    refine HE.out.mono ?_
    rintro e w3 ⟨rfl, rfl⟩
    go_wp2_with fail
    go_ret
    exact ⟨ret_bool HD.out.symm, HB2.out⟩

set_option maxHeartbeats 4000000 in
theorem refForged_any (A B : Option Addr) (n m ca cb : Nat) (f w : List UInt8) (W : World) (hn : n = f.length) (hm : m = w.length) (hca : f.length ≤ ca) (hcb : w.length ≤ cb) (hA : Bytes W W.heap.size A f) (hB : Bytes W W.heap.size B w) (hf : f.length ≤ 900000) (hw : w.length ≤ 900000) :
    Calls Try.prog 32 #[.slice A n ca, .slice B m cb] W (IsB W (forged f w)) := by
  have HF := Lib.hid (Scan_any B m cb w W hm hcb hB hw)
  have HG := Lib.hid (fun w' (hb : Below W.heap.size W w') => Scan_any A n ca f w' hn hca (hA.later hb) hf)
  have HD := Lib.hid (show forged f w = (decide (0 < (run St0 w).2.length) && !((run St0 w).2 == (run St0 f).2)) from rfl)
  have hln := run_len w St0
  have HLN := Lib.hid (show (run St0 w).2.length ≤ 900000 by omega)
  clear hA hB hf hw hn hm hln hca hcb
  generalize run St0 w = x at HF HD HLN
  generalize run St0 f = y at HG HD
  obtain ⟨x0, x⟩ := x
  obtain ⟨y0, y⟩ := y
  go_enter Try.func32, Try.ntmps32
  go_wp2_with fail
  refine HF.out.mono ?_
  rintro e w1 ⟨A1, c1, rfl, h1, h2, hx, hb1⟩
  simp only at HD HLN hx h1
  have HB := Lib.hid (below_alloc hb1 (.cells #[.int .i64 x0.good, .int .i64 x0.bad, .int .i64 x0.long, .int .i64 x0.noise] 37))
  have HX := Lib.hid (hx.later (below_alloc (Below.refl w1.heap.size w1) (.cells #[.int .i64 x0.good, .int .i64 x0.bad, .int .i64 x0.long, .int .i64 x0.noise] 37)))
  clear hx hb1 h1 h2
  go_wp2_with fail
  refine (HG.out _ HB.out).mono ?_
  rintro e w2 ⟨A2, c2, rfl, h3, h4, hy, hb2⟩
  simp only at hy h3
  have hb3 := below_alloc (Below.refl w2.heap.size w2) (.cells #[.int .i64 y0.good, .int .i64 y0.bad, .int .i64 y0.long, .int .i64 y0.noise] 37)
  have HB3 := Lib.hid (below_next (below_next HB.out hb2) hb3)
  by_cases h0 : x.length = 0
  · have hI : (x.length : Int) = 0 := by omega
    rw [decide_eq_false (by omega), Bool.false_and] at HD
    clear hy hb2 hb3 h3 h4
    go_wp2_with fail
    go_ret
    exact ⟨ret_bool HD.out.symm, HB3.out⟩
  · have hI : (0 : Int) < (x.length : Int) := by omega
    rw [decide_eq_true (by omega), Bool.true_and] at HD
    have HE := Lib.hid (refSameAll_any A1 A2 x.length y.length c1 c2 x y _ _ (w2.alloc (.cells #[.int .i64 y0.good, .int .i64 y0.bad, .int .i64 y0.long, .int .i64 y0.noise] 37)) rfl rfl ((HX.out.later hb2).later hb3) (hy.later hb3) (Nat.le_refl _) (Nat.le_refl _) (Nat.le_trans HLN.out (by decide)))
    clear hy hb2 hb3 h3 h4
    go_wp2_with fail
    refine HE.out.mono ?_
    rintro e w3 ⟨rfl, hd⟩
    have HB4 := Lib.hid (below_next HB3.out (hd.below _))
    clear hd
    go_wp2_with fail
    go_ret
    exact ⟨ret_bool HD.out.symm, HB4.out⟩

theorem forged_self (f : List UInt8) : forged f f = false := by
  unfold forged
  rw [beq_self_eq_true, Bool.not_true, Bool.and_false]
theorem forged_none (f : List UInt8) : forged f [] = false := by
  unfold forged
  rw [show (run St0 []).2 = [] from rfl]
  rfl

set_option maxHeartbeats 4000000 in
theorem EditForged_any (A B : Option Addr) (n m ca cb : Nat) (f w : List UInt8) (W : World) (hn : n = f.length) (hm : m = w.length) (hca : f.length ≤ ca) (hcb : w.length ≤ cb) (hA : Bytes W W.heap.size A f) (hB : Bytes W W.heap.size B w) :
    Calls Try.prog 10 #[.slice A n ca, .slice B m cb] W (IsB W true) := by
  by_cases hlg : n ≤ 600 ∧ m ≤ 600
  · obtain ⟨hl1, hl2⟩ := hlg
    have HF := Lib.hid (fun tb w' (hb : Below W.heap.size W w') ht htb => Forged_any tb A B n m ca cb f w w' hn hm ht htb (hA.later hb) (hB.later hb) (by omega) (by omega))
    have HR := Lib.hid (fun w' (hb : Below W.heap.size W w') => refForged_any A B n m ca cb f w w' hn hm hca hcb (hA.later hb) (hB.later hb) (by omega) (by omega))
    have hs := fun tb w' (hb : Below W.heap.size W w') ht htb => Forged_any tb A A n n ca ca f f w' hn hn ht htb (hA.later hb) (hA.later hb) (by omega) (by omega)
    have hz := fun tb w' (hb : Below W.heap.size W w') ht htb => Forged_any tb A none n 0 ca 0 f [] w' hn rfl ht htb (hA.later hb) (Bytes.nil _ _ _) (by omega) (by simp)
    rw [forged_self] at hs
    rw [forged_none] at hz
    have HS := Lib.hid hs
    have HZ := Lib.hid hz
    have h1I : ¬ (600 : Int) < (n : Int) := by omega
    have h2I : ¬ (600 : Int) < (m : Int) := by omega
    clear hs hz hA hB hn hm hca hcb
    generalize forged f w = x at *
    go_enter Try.func10, Try.ntmps10
    go_wp2_with fail
    refine (Crc.New_any _).mono ?_
    rintro e w1 ⟨tb, rfl, ht1, htb0, htb, hb1⟩
    have HB1 := Lib.hid hb1
    have HT := Lib.hid ht1
    clear hb1 ht1
    go_wp2_with fail
    refine (HF.out tb w1 HB1.out HT.out htb).mono ?_
    rintro e w2 ⟨rfl, hb2⟩
    have HB2 := Lib.hid (below_next HB1.out hb2)
    have HT2 := Lib.hid (HT.out.below hb2 htb)
    have htb2 := Nat.lt_of_lt_of_le htb hb2.size
    clear hb2
    go_wp2_with fail
    refine (HR.out w2 HB2.out).mono ?_
    rintro e w3 ⟨rfl, hb3⟩
    have HB3 := Lib.hid (below_next HB2.out hb3)
    have HT3 := Lib.hid (HT2.out.below hb3 htb2)
    have htb3 := Nat.lt_of_lt_of_le htb2 hb3.size
    have hxx : (x == x) = true := beq_self_eq_true x
    clear hb3
    go_wp2_with fail
    refine (HS.out tb w3 HB3.out HT3.out htb3).mono ?_
    rintro e w4 ⟨rfl, hb4⟩
    have HB4 := Lib.hid (below_next HB3.out hb4)
    have HT4 := Lib.hid (HT3.out.below hb4 htb3)
    have htb4 := Nat.lt_of_lt_of_le htb3 hb4.size
    clear hb4
    go_wp2_with fail
    refine (HZ.out tb w4 HB4.out HT4.out htb4).mono ?_
    rintro e w5 ⟨rfl, hb5⟩
    have HB5 := Lib.hid (below_next HB4.out hb5)
    clear hb5
    go_wp2_with fail
    refine (live_any _).mono ?_
    rintro e w7 ⟨rfl, hb7⟩
    go_wp2
    go_ret
    exact ⟨rfl, below_next HB5.out hb7⟩
  · have h1 : (600 : Int) < (n : Int) ∨ (¬ (600 : Int) < (n : Int) ∧ (600 : Int) < (m : Int)) := by omega
    clear hlg hA hB hn hm hca hcb
    rcases h1 with h1 | ⟨h1, h2⟩
    all_goals (
      go_enter Try.func10, Try.ntmps10
      go_wp2_with fail
      refine (live_any _).mono ?_
      rintro e w7 ⟨rfl, hb7⟩
      go_wp2
      go_ret
      exact ⟨rfl, hb7⟩)
end Go.Proofs.Ytfieinajkkcelaa.Ed
