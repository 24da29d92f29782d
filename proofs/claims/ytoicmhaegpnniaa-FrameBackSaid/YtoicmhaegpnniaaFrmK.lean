
/- Layer 4 (frame): the laws on what is opened. -/
import Derived.Test.YtoicmhaegpnniaaFrmL
namespace Go.Proofs.Ytoicmhaegpnniaa.Frm
open Go.RowKit Go.Proofs.Ytoicmhaegpnniaa.Mem Go.Proofs.Ytoicmhaegpnniaa.CrcM Go.Proofs.Ytoicmhaegpnniaa.StuffL Go.Proofs.Ytoicmhaegpnniaa.FrmM

theorem bodyF_le (s : List UInt8) : ((bodyF s).getD []).length ≤ 96 := by
  cases h : bodyF s with
  | none => simp
  | some b => exact (body_wrap h).2
theorem openF_le (s : List UInt8) : ((openF s).getD []).length ≤ 96 := by
  cases h : openF s with
  | none => simp
  | some b => exact (wrap_open h).2

set_option maxHeartbeats 4000000 in
/-- FrameOpens -/
theorem FrameOpens_any (A : Option Addr) (cap : Nat) (l : List UInt8) (W : World) (hA : Bytes W W.heap.size A l) (hc : l.length ≤ cap) (hm : cap ≤ maxLen) :
    Calls Try.prog 8 #[.slice A l.length cap] W fun e W' => e = .returned (.bool true) ∧ Below W.heap.size W W' := by
  by_cases hl : 1000 < l.length
  · have hl' : (1000 : Int) < l.length := by omega
    go_enter Try.func8, Try.ntmps8
    go_wp2_with fail
    refine (live_any _).mono ?_
    rintro e w ⟨rfl, hb⟩
    go_wp2
    go_ret
    exact ⟨rfl, hb⟩
  · have hl' : ¬ ((1000 : Int) < l.length) := by omega
    have HO := Lib.hid (openF_le l)
    have HB := Lib.hid (bodyF_le l)
    go_enter Try.func8, Try.ntmps8
    go_wp2_with fail
    refine (Crc.New_any _).mono ?_
    rintro e w1 ⟨b, rfl, ht1, _, hbs, hb1⟩
    go_wp2_with fail
    refine (Open_any b A _ cap l _ rfl hc hm (by omega) ht1 hbs (hA.later hb1)).mono ?_
    rintro e w2 ⟨v2, rfl, ho2, hb2⟩
    obtain ⟨A2, c2, rfl, hc2, hm2, _⟩ := ho2.shape
    have hb02 := below_next hb1 hb2
    go_wp2_with fail
    refine (refOpen_any A _ cap l _ rfl hc hm (by omega) (hA.later hb02)).mono ?_
    rintro e w3 ⟨v3, rfl, ho3, hb3⟩
    obtain ⟨A3, c3, rfl, hc3, hm3, _⟩ := ho3.shape
    have hb03 := below_next hb02 hb3
    have hX := ho2.later hb3
    have hY := ho3.bytes
    clear ho2 ho3
    generalize Stuff.eno (openF l) 40 = eo
    generalize (openF l).getD [] = xo at HO hX hY ⊢
    go_wp2_with fail
    refine (Body_any b A _ cap l _ rfl (by omega) (ht1.below (below_next hb2 hb3) hbs) (by have := hb2.size; have := hb3.size; omega) (hA.later hb03)).mono ?_
    rintro e w4 ⟨v4, rfl, ho4, hb4⟩
    obtain ⟨A4, c4, rfl, hc4, hm4, _⟩ := ho4.shape
    have hb04 := below_next hb03 hb4
    have hX4 := hX.later hb4
    have hY4 := hY.later hb4
    go_wp2_with fail
    refine (refBody_any A _ cap l _ rfl (by omega) (hA.later hb04)).mono ?_
    rintro e w5 ⟨v5, rfl, ho5, hb5⟩
    obtain ⟨A5, c5, rfl, hc5, hm5, _⟩ := ho5.shape
    have hb05 := below_next hb04 hb5
    have hX5 := hX4.later hb5
    have hY5 := hY4.later hb5
    have hZ5 := ho4.later hb5
    have hU5 := ho5.bytes
    clear ho4 ho5
    generalize Stuff.eno (bodyF l) 40 = eb
    generalize (bodyF l).getD [] = xb at HB hZ5 hU5 ⊢
    go_wp2_with (go_at_call 27; refine (num_any _ _).mono ?_; rintro e w' ⟨rfl, rfl⟩)
    refine (same_yes A2 A3 _ _ c2 c3 xo _ rfl rfl hX5 hY5 (by have := HO.out; unfold maxLen; omega)).mono ?_
    rintro e w6 ⟨rfl, hb6⟩
    have hb06 := below_next hb05 hb6
    go_wp2_with (go_at_call 27; refine (num_any _ _).mono ?_; rintro e w' ⟨rfl, rfl⟩)
    refine (same_yes A4 A5 _ _ c4 c5 xb _ rfl rfl (hZ5.later hb6) (hU5.later hb6) (by have := HB.out; unfold maxLen; omega)).mono ?_
    rintro e w7 ⟨rfl, hb7⟩
    have hb07 := below_next hb06 hb7
    go_wp2_with fail
    refine (live_any _).mono ?_
    rintro e w8 ⟨rfl, hb8⟩
    go_wp2
    go_ret
    exact ⟨rfl, below_next hb07 hb8⟩


theorem openF_nil : openF [] = none := by decide

set_option maxHeartbeats 8000000 in
/-- FrameBack -/
theorem FrameBack_any (A B : Option Addr) (ca cb : Nat) (l m : List UInt8) (W : World) (hA : Bytes W W.heap.size A l) (hB : Bytes W W.heap.size B m) (hc : l.length ≤ ca) (hm : ca ≤ maxLen) (hd : m.length ≤ cb) (hdm : cb ≤ maxLen) (hml : m.length ≤ 140737488355328) :
    Calls Try.prog 9 #[.slice A l.length ca, .slice B m.length cb] W fun e W' => e = .returned (.bool true) ∧ Below W.heap.size W W' := by
  by_cases hl : l.length ≤ 96
  · have hl' : ((l.length : Int) ≤ 96) := by omega
    have E1 := Lib.hid (show we l = 0 from if_pos hl)
    have E2 := Lib.hid (show wv l = wrapF l from if_pos hl)
    have E3 := Lib.hid (open_wrap l hl)
    have HWL := Lib.hid (wrapF_length l)
    go_enter Try.func9, Try.ntmps9
    go_wp2_with fail
    refine (Crc.New_any _).mono ?_
    rintro e w1 ⟨b, rfl, ht1, _, hbs, hb1⟩
    go_wp2_with fail
    refine (Wrap_any b A _ ca l _ rfl hc hm ht1 hbs (hA.later hb1)).mono ?_
    rw [E1.out, E2.out]
    rintro e w2 ⟨v2, rfl, ho2, hb2⟩
    obtain ⟨A2, c2, rfl, hc2, hm2, _⟩ := ho2.shape
    have hb02 := below_next hb1 hb2
    go_wp2_with fail
    refine (Open_any b A2 _ c2 (wrapF l) _ rfl hc2 hm2 (by have := HWL.out; omega) (ht1.below hb2 hbs) (Nat.lt_of_lt_of_le hbs hb2.size) ho2.bytes).mono ?_
    rw [E3.out]
    rintro e w3 ⟨v3, rfl, ho3, hb3⟩
    simp only [Stuff.eno, Option.getD_some] at ho3 ⊢
    obtain ⟨A3, c3, rfl, hc3, hm3, _⟩ := ho3.shape
    have hb13 := below_next hb2 hb3
    have hb03 := below_next hb02 hb3
    clear ho2
    go_wp2_with (go_at_call 27; refine (num_any _ _).mono ?_; rintro e w' ⟨rfl, rfl⟩)
    refine (same_yes A3 A _ _ c3 ca l _ rfl rfl ho3.bytes (hA.later hb03) (Nat.le_trans hc hm)).mono ?_
    rintro e w4 ⟨rfl, hb4⟩
    have hb1X := below_next hb13 hb4
    have hb0X := below_next hb03 hb4
    clear ho3 hb13 hb03 hb2 hb3 hb02
    cases hw : openF m with
    | none =>
      have HWM := Lib.hid hw
      go_wp2_with fail
      refine (Open_any b B _ cb m _ rfl hd hdm hml (ht1.below hb1X hbs) (Nat.lt_of_lt_of_le hbs hb1X.size) (hB.later hb0X)).mono ?_
      rw [HWM.out]
      rintro e w6 ⟨v6, rfl, ho6, hb6⟩
      simp only [Stuff.eno, Option.getD_none] at ho6 ⊢
      obtain ⟨A6, c6, rfl, hc6, hm6, _⟩ := ho6.shape
      have hb16 := below_next hb1X hb6
      have hb06 := below_next hb0X hb6
      go_wp2_with fail
      refine (Wrap_any b A6 _ c6 [] _ rfl hc6 hm6 (ht1.below hb16 hbs) (Nat.lt_of_lt_of_le hbs hb16.size) ho6.bytes).mono ?_
      rintro e w7 ⟨v7, rfl, ho7, hb7⟩
      obtain ⟨A7, c7, rfl, hc7, hm7, _⟩ := ho7.shape
      have hb07 := below_next hb06 hb7
      go_wp2_with (go_at_call 27; refine (num_any _ _).mono ?_; rintro e w' ⟨rfl, rfl⟩)
      refine (live_any _).mono ?_
      rintro e w8 ⟨rfl, hb8⟩
      go_wp2
      go_ret
      exact ⟨rfl, below_next hb07 hb8⟩
    | some y =>
      have HWM := Lib.hid hw
      obtain ⟨q1, q2⟩ := wrap_open hw
      have HQ1 := Lib.hid (show wv y = m by rw [← q1]; exact if_pos q2)
      have HQ2 := Lib.hid (show we y = 0 from if_pos q2)
      clear q1 hw
      go_wp2_with fail
      refine (Open_any b B _ cb m _ rfl hd hdm hml (ht1.below hb1X hbs) (Nat.lt_of_lt_of_le hbs hb1X.size) (hB.later hb0X)).mono ?_
      rw [HWM.out]
      rintro e w6 ⟨v6, rfl, ho6, hb6⟩
      simp only [Stuff.eno, Option.getD_some] at ho6 ⊢
      obtain ⟨A6, c6, rfl, hc6, hm6, _⟩ := ho6.shape
      have hb16 := below_next hb1X hb6
      have hb06 := below_next hb0X hb6
      go_wp2_with fail
      refine (Wrap_any b A6 _ c6 y _ rfl hc6 hm6 (ht1.below hb16 hbs) (Nat.lt_of_lt_of_le hbs hb16.size) ho6.bytes).mono ?_
      rw [HQ1.out, HQ2.out]
      rintro e w7 ⟨v7, rfl, ho7, hb7⟩
      obtain ⟨A7, c7, rfl, hc7, hm7, _⟩ := ho7.shape
      have hb07 := below_next hb06 hb7
      go_wp2_with (go_at_call 27; refine (num_any _ _).mono ?_; rintro e w' ⟨rfl, rfl⟩)
      refine (same_yes A7 B _ _ c7 cb m _ rfl rfl ho7.bytes (hB.later hb07) (Nat.le_trans hd hdm)).mono ?_
      rintro e w8 ⟨rfl, hb8⟩
      have hb08 := below_next hb07 hb8
      go_wp2_with fail
      refine (live_any _).mono ?_
      rintro e w9 ⟨rfl, hb9⟩
      go_wp2
      go_ret
      exact ⟨rfl, below_next hb08 hb9⟩
  · have hl' : ¬ ((l.length : Int) ≤ 96) := by omega
    have E1 := Lib.hid (show we l = 2 from if_neg hl)
    have E2 := Lib.hid (show wv l = [] from if_neg hl)
    have E3 := Lib.hid openF_nil
    go_enter Try.func9, Try.ntmps9
    go_wp2_with fail
    refine (Crc.New_any _).mono ?_
    rintro e w1 ⟨b, rfl, ht1, _, hbs, hb1⟩
    go_wp2_with fail
    refine (Wrap_any b A _ ca l _ rfl hc hm ht1 hbs (hA.later hb1)).mono ?_
    rw [E1.out, E2.out]
    rintro e w2 ⟨v2, rfl, ho2, hb2⟩
    obtain ⟨A2, c2, rfl, hc2, hm2, _⟩ := ho2.shape
    have hb02 := below_next hb1 hb2
    go_wp2_with fail
    refine (Open_any b A2 _ c2 [] _ rfl hc2 hm2 (by simp) (ht1.below hb2 hbs) (Nat.lt_of_lt_of_le hbs hb2.size) ho2.bytes).mono ?_
    rw [E3.out]
    rintro e w3 ⟨v3, rfl, ho3, hb3⟩
    simp only [Stuff.eno, Option.getD_none] at ho3 ⊢
    obtain ⟨A3, c3, rfl, hc3, hm3, _⟩ := ho3.shape
    have hb1X := below_next hb2 hb3
    have hb0X := below_next hb02 hb3
    clear ho2 ho3 hb2 hb3 hb02
    cases hw : openF m with
    | none =>
      have HWM := Lib.hid hw
      go_wp2_with (go_at_call 27; refine (num_any _ _).mono ?_; rintro e w' ⟨rfl, rfl⟩)
      refine (Open_any b B _ cb m _ rfl hd hdm hml (ht1.below hb1X hbs) (Nat.lt_of_lt_of_le hbs hb1X.size) (hB.later hb0X)).mono ?_
      rw [HWM.out]
      rintro e w6 ⟨v6, rfl, ho6, hb6⟩
      simp only [Stuff.eno, Option.getD_none] at ho6 ⊢
      obtain ⟨A6, c6, rfl, hc6, hm6, _⟩ := ho6.shape
      have hb16 := below_next hb1X hb6
      have hb06 := below_next hb0X hb6
      go_wp2_with fail
      refine (Wrap_any b A6 _ c6 [] _ rfl hc6 hm6 (ht1.below hb16 hbs) (Nat.lt_of_lt_of_le hbs hb16.size) ho6.bytes).mono ?_
      rintro e w7 ⟨v7, rfl, ho7, hb7⟩
      obtain ⟨A7, c7, rfl, hc7, hm7, _⟩ := ho7.shape
      have hb07 := below_next hb06 hb7
      go_wp2_with (go_at_call 27; refine (num_any _ _).mono ?_; rintro e w' ⟨rfl, rfl⟩)
      refine (live_any _).mono ?_
      rintro e w8 ⟨rfl, hb8⟩
      go_wp2
      go_ret
      exact ⟨rfl, below_next hb07 hb8⟩
    | some y =>
      have HWM := Lib.hid hw
      obtain ⟨q1, q2⟩ := wrap_open hw
      have HQ1 := Lib.hid (show wv y = m by rw [← q1]; exact if_pos q2)
      have HQ2 := Lib.hid (show we y = 0 from if_pos q2)
      clear q1 hw
      go_wp2_with (go_at_call 27; refine (num_any _ _).mono ?_; rintro e w' ⟨rfl, rfl⟩)
      refine (Open_any b B _ cb m _ rfl hd hdm hml (ht1.below hb1X hbs) (Nat.lt_of_lt_of_le hbs hb1X.size) (hB.later hb0X)).mono ?_
      rw [HWM.out]
      rintro e w6 ⟨v6, rfl, ho6, hb6⟩
      simp only [Stuff.eno, Option.getD_some] at ho6 ⊢
      obtain ⟨A6, c6, rfl, hc6, hm6, _⟩ := ho6.shape
      have hb16 := below_next hb1X hb6
      have hb06 := below_next hb0X hb6
      go_wp2_with fail
      refine (Wrap_any b A6 _ c6 y _ rfl hc6 hm6 (ht1.below hb16 hbs) (Nat.lt_of_lt_of_le hbs hb16.size) ho6.bytes).mono ?_
      rw [HQ1.out, HQ2.out]
      rintro e w7 ⟨v7, rfl, ho7, hb7⟩
      obtain ⟨A7, c7, rfl, hc7, hm7, _⟩ := ho7.shape
      have hb07 := below_next hb06 hb7
      go_wp2_with (go_at_call 27; refine (num_any _ _).mono ?_; rintro e w' ⟨rfl, rfl⟩)
      refine (same_yes A7 B _ _ c7 cb m _ rfl rfl ho7.bytes (hB.later hb07) (Nat.le_trans hd hdm)).mono ?_
      rintro e w8 ⟨rfl, hb8⟩
      have hb08 := below_next hb07 hb8
      go_wp2_with fail
      refine (live_any _).mono ?_
      rintro e w9 ⟨rfl, hb9⟩
      go_wp2
      go_ret
      exact ⟨rfl, below_next hb08 hb9⟩

end Go.Proofs.Ytoicmhaegpnniaa.Frm
