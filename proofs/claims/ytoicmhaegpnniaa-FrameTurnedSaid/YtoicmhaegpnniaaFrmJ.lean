
/- Layer 4 (frame): the laws on a frame of which one byte is turned, and on nil tables. -/
import Derived.Test.YtoicmhaegpnniaaFrmL
namespace Go.Proofs.Ytoicmhaegpnniaa.Frm
open Go.RowKit Go.Proofs.Ytoicmhaegpnniaa.Mem Go.Proofs.Ytoicmhaegpnniaa.CrcM Go.Proofs.Ytoicmhaegpnniaa.StuffL Go.Proofs.Ytoicmhaegpnniaa.FrmM

theorem turned_d (b : List UInt8) (i : Nat) (c d y : UInt8) (hi : i < (wrapF b).length) (hc : nth8 (wrapF b) i = c) (hd : d = c ^^^ y) (hy : y ≠ 0) (h1 : c ≠ 125) (h2 : d ≠ 125) : openF ((wrapF b).set i d) = none := by
  subst hc
  refine turned b i d hi ?_ h1 h2
  rw [hd]
  intro e
  apply hy
  have := congrArg (nth8 (wrapF b) i ^^^ ·) e
  simp only [← UInt8.xor_assoc, UInt8.xor_self, UInt8.zero_xor] at this
  exact this

set_option maxHeartbeats 8000000 in
/-- FrameTurned -/
theorem FrameTurned_any (A : Option Addr) (ca : Nat) (l : List UInt8) (at_ : Int) (y : UInt8) (W : World) (hA : Bytes W W.heap.size A l) (hc : l.length ≤ ca) (hm : ca ≤ maxLen) :
    Calls Try.prog 10 #[.slice A l.length ca, .int .i64 at_, .int .u8 (y.toNat : Int)] W fun e W' => e = .returned (.bool true) ∧ Below W.heap.size W W' := by
  by_cases hl : l.length ≤ 96
  · have E1 := Lib.hid (show we l = 0 from if_pos hl)
    have E2 := Lib.hid (show wv l = wrapF l from if_pos hl)
    have HWL := Lib.hid (wrapF_length l)
    by_cases hin : 0 ≤ at_ ∧ at_ < (wrapF l).length
    · obtain ⟨i, rfl⟩ : ∃ i : Nat, (i : Int) = at_ := ⟨at_.toNat, by omega⟩
      have hi : i < (wrapF l).length := by omega
      have hg1 : ¬ (((wrapF l).length : Int) ≤ (i : Int)) := by omega
      have hg2 : ((i : Int) < ((wrapF l).length : Int)) := by omega
      have hg0 : (0 : Int) ≤ (i : Int) := by omega
      obtain ⟨c, hcc⟩ : ∃ c, nth8 (wrapF l) i = c := ⟨_, rfl⟩
      have hbyte : byteAt (wrapF l) i = (c.toNat : Int) := by rw [← hcc]; rfl
      obtain ⟨d, hdd⟩ : ∃ d, d = c ^^^ y := ⟨_, rfl⟩
      have hx : bits .xor .u8 (c.toNat : Int) (y.toNat : Int) = (d.toNat : Int) := by
        rw [hdd, Crc.xor_u8 _ _ (byte_lt c) (byte_lt y), UInt8.toNat_xor]
      have hyr := byte_lt y
      have hcr := byte_lt c
      have hdr := byte_lt d
      have HT := fun h1 h2 h3 => turned_d l i c d y hi hcc hdd h1 h2 h3
      have HTT := Lib.hid HT
      have HBY := Lib.hid hbyte
      clear HT hcc hdd hin hbyte
      by_cases hy0 : y = 0
      · have hyb : ((y.toNat : Int) == 0) = true := by subst hy0; rfl
        clear hy0
        go_enter Try.func10, Try.ntmps10
        go_wp2_with fail
        refine (Crc.New_any _).mono ?_
        rintro e w1 ⟨b, rfl, ht1, _, hbs, hb1⟩
        go_wp2_with fail
        refine (Wrap_any b A _ ca l _ rfl hc hm ht1 hbs (hA.later hb1)).mono ?_
        rw [E1.out, E2.out]
        rintro e w2 ⟨v2, rfl, ho2, hb2⟩
        obtain ⟨A2, c2, rfl, hc2, hm2, _⟩ := ho2.shape
        go_wp2_with (go_at_call 27; refine (num_any _ _).mono ?_; rintro e w' ⟨rfl, rfl⟩)
        refine (live_any _).mono ?_
        rintro e w8 ⟨rfl, hb8⟩
        go_wp2
        go_ret
        exact ⟨rfl, below_next (below_next hb1 hb2) hb8⟩
      · have hyb : ((y.toNat : Int) == 0) = false := by
          rw [beq_eq_false_iff_ne]
          intro e
          apply hy0
          rw [← UInt8.toNat_inj]
          simpa using e
        by_cases hc5 : c = 125
        · have hcb : ((c.toNat : Int) == 125) = true := by subst hc5; rfl
          clear hc5 HTT
          go_enter Try.func10, Try.ntmps10
          go_wp2_with fail
          refine (Crc.New_any _).mono ?_
          rintro e w1 ⟨b, rfl, ht1, _, hbs, hb1⟩
          go_wp2_with fail
          refine (Wrap_any b A _ ca l _ rfl hc hm ht1 hbs (hA.later hb1)).mono ?_
          rw [E1.out, E2.out]
          rintro e w2 ⟨v2, rfl, ho2, hb2⟩
          obtain ⟨g, c2, rfl, hg, hc2, hm2⟩ := Crc.own_row ho2 (by omega)
          obtain ⟨hcell, hfr⟩ := ho2.cellAt hi
          rw [HBY.out] at hcell
          generalize (wrapF l).length = n at hg1 hg2 hc2 hi ⊢
          clear ho2
          go_wp2_with (go_at_call 27; refine (num_any _ _).mono ?_; rintro e w' ⟨rfl, rfl⟩)
          refine (live_any _).mono ?_
          rintro e w8 ⟨rfl, hb8⟩
          go_wp2
          go_ret
          exact ⟨rfl, below_next (below_next hb1 hb2) hb8⟩
        · have hcb : ((c.toNat : Int) == 125) = false := by
            rw [beq_eq_false_iff_ne]
            intro e
            apply hc5
            rw [← UInt8.toNat_inj]
            have : c.toNat = 125 := by omega
            simpa using this
          by_cases hd5 : d = 125
          · have hdb : ((d.toNat : Int) == 125) = true := by subst hd5; rfl
            clear hd5 HTT
            go_enter Try.func10, Try.ntmps10
            go_wp2_with fail
            refine (Crc.New_any _).mono ?_
            rintro e w1 ⟨b, rfl, ht1, _, hbs, hb1⟩
            go_wp2_with fail
            refine (Wrap_any b A _ ca l _ rfl hc hm ht1 hbs (hA.later hb1)).mono ?_
            rw [E1.out, E2.out]
            rintro e w2 ⟨v2, rfl, ho2, hb2⟩
            obtain ⟨g, c2, rfl, hg, hc2, hm2⟩ := Crc.own_row ho2 (by omega)
            obtain ⟨hcell, hfr⟩ := ho2.cellAt hi
            rw [HBY.out] at hcell
            generalize (wrapF l).length = n at hg1 hg2 hc2 hi ⊢
            clear ho2
            go_wp2_with (go_at_call 27; refine (num_any _ _).mono ?_; rintro e w' ⟨rfl, rfl⟩)
            refine (live_any _).mono ?_
            rintro e w8 ⟨rfl, hb8⟩
            go_wp2
            go_ret
            exact ⟨rfl, below_next (below_next hb1 hb2) hb8⟩
          · have hdb : ((d.toNat : Int) == 125) = false := by
              rw [beq_eq_false_iff_ne]
              intro e
              apply hd5
              rw [← UInt8.toNat_inj]
              have : d.toNat = 125 := by omega
              simpa using this
            have HN := Lib.hid (HTT.out hy0 hc5 hd5)
            have HSL := Lib.hid (show ((wrapF l).set i d).length = (wrapF l).length from List.length_set)
            clear HTT hy0 hc5 hd5
            go_enter Try.func10, Try.ntmps10
            go_wp2_with fail
            refine (Crc.New_any _).mono ?_
            rintro e w1 ⟨b, rfl, ht1, _, hbs, hb1⟩
            go_wp2_with fail
            refine (Wrap_any b A _ ca l _ rfl hc hm ht1 hbs (hA.later hb1)).mono ?_
            rw [E1.out, E2.out]
            rintro e w2 ⟨v2, rfl, ho2, hb2⟩
            obtain ⟨g, c2, rfl, hg, hc2, hm2⟩ := Crc.own_row ho2 (by omega)
            obtain ⟨hcell, hfr⟩ := ho2.cellAt hi
            rw [HBY.out] at hcell
            have HS := Lib.hid (ho2.set i d)
            have HB3 := Lib.hid (hb2.setCell (p := ⟨g, i, none⟩) hg (.int .u8 (d.toNat : Int)))
            have HLEN := Lib.hid (show (wrapF l).length ≤ 202 by have := HWL.out; omega)
            generalize hn : (wrapF l).length = n at hg1 hg2 hc2 hi HS HSL HLEN ⊢
            clear ho2 hn
            go_wp2_with (go_at_call 27; refine (num_any _ _).mono ?_; rintro e w' ⟨rfl, rfl⟩)
            refine (Open_any b (some ⟨g, 0, none⟩) n c2 ((wrapF l).set i d) _ HSL.out.symm (by rw [HSL.out]; exact hc2) hm2 (by rw [HSL.out]; have := HLEN.out; omega) (ht1.below HB3.out hbs) (Nat.lt_of_lt_of_le hbs HB3.out.size) HS.out.bytes).mono ?_
            rw [HN.out]
            rintro e w4 ⟨v4, rfl, ho4, hb4⟩
            simp only [Stuff.eno, Option.getD_none] at ho4 ⊢
            have hb14 := below_next HB3.out hb4
            clear ho4
            go_wp2_with (go_at_call 27; refine (num_any _ _).mono ?_; rintro e w' ⟨rfl, rfl⟩)
            refine (live_any _).mono ?_
            rintro e w8 ⟨rfl, hb8⟩
            go_wp2
            go_ret
            exact ⟨rfl, below_next (below_next hb1 hb14) hb8⟩
    · have hx : at_ < 0 ∨ (¬ at_ < 0 ∧ ((wrapF l).length : Int) ≤ at_) := by omega
      clear hin
      rcases hx with hx | ⟨hx, hx2⟩
      all_goals (
        go_enter Try.func10, Try.ntmps10
        go_wp2_with fail
        refine (Crc.New_any _).mono ?_
        rintro e w1 ⟨b, rfl, ht1, _, hbs, hb1⟩
        go_wp2_with fail
        refine (Wrap_any b A _ ca l _ rfl hc hm ht1 hbs (hA.later hb1)).mono ?_
        rw [E1.out, E2.out]
        rintro e w2 ⟨v2, rfl, ho2, hb2⟩
        obtain ⟨A2, c2, rfl, hc2, hm2, _⟩ := ho2.shape
        go_wp2_with (go_at_call 27; refine (num_any _ _).mono ?_; rintro e w' ⟨rfl, rfl⟩)
        refine (live_any _).mono ?_
        rintro e w8 ⟨rfl, hb8⟩
        go_wp2
        go_ret
        exact ⟨rfl, below_next (below_next hb1 hb2) hb8⟩)
  · have E1 := Lib.hid (show we l = 2 from if_neg hl)
    have E2 := Lib.hid (show wv l = [] from if_neg hl)
    clear hl
    go_enter Try.func10, Try.ntmps10
    go_wp2_with fail
    refine (Crc.New_any _).mono ?_
    rintro e w1 ⟨b, rfl, ht1, _, hbs, hb1⟩
    go_wp2_with fail
    refine (Wrap_any b A _ ca l _ rfl hc hm ht1 hbs (hA.later hb1)).mono ?_
    rw [E1.out, E2.out]
    rintro e w2 ⟨v2, rfl, ho2, hb2⟩
    obtain ⟨A2, c2, rfl, hc2, hm2, _⟩ := ho2.shape
    go_wp2_with (go_at_call 27; refine (num_any _ _).mono ?_; rintro e w' ⟨rfl, rfl⟩)
    refine (live_any _).mono ?_
    rintro e w8 ⟨rfl, hb8⟩
    go_wp2
    go_ret
    exact ⟨rfl, below_next (below_next hb1 hb2) hb8⟩

theorem FrameTurned_int (A : Option Addr) (ca : Nat) (l : List UInt8) (at_ y : Int) (W : World) (hA : Bytes W W.heap.size A l) (hc : l.length ≤ ca) (hm : ca ≤ maxLen) (h0 : 0 ≤ y) (h1 : y ≤ 255) :
    Calls Try.prog 10 #[.slice A l.length ca, .int .i64 at_, .int .u8 y] W fun e W' => e = .returned (.bool true) ∧ Below W.heap.size W W' := by
  have e : y = ((UInt8.ofNat y.toNat).toNat : Int) := by simp; omega
  rw [e]
  exact FrameTurned_any A ca l at_ _ W hA hc hm
end Go.Proofs.Ytoicmhaegpnniaa.Frm
