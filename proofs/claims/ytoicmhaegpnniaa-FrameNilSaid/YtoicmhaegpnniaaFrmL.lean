
/- Layer 4 (frame): the page's examples, and the laws. -/
import Derived.Test.YtoicmhaegpnniaaFrmR
import Derived.Test.YtoicmhaegpnniaaFrmP
namespace Go.Proofs.Ytoicmhaegpnniaa.Frm
open Go.RowKit Go.Proofs.Ytoicmhaegpnniaa.Mem Go.Proofs.Ytoicmhaegpnniaa.CrcM Go.Proofs.Ytoicmhaegpnniaa.StuffL Go.Proofs.Ytoicmhaegpnniaa.FrmM

theorem num_any (n : Int) (W : World) :
    Calls Try.prog 27 #[.int .i64 n] W fun e W' => e = .returned (.int .i64 n) ∧ W = W' := by
  go_enter Try.func27, Try.ntmps27
  go_wp2
  go_ret
  exact ⟨rfl, rfl⟩

/-- equal texts -/
theorem same_yes (A B : Option Addr) (n n' ca cb : Nat) (l : List UInt8) (W : World) (hn : n = l.length) (hn' : n' = l.length) (hA : Bytes W W.heap.size A l) (hB : Bytes W W.heap.size B l) (hl : l.length ≤ maxLen) :
    Calls Try.prog 17 #[.slice A n ca, .slice B n' cb] W fun e W' => e = .returned (.bool true) ∧ Below W.heap.size W W' := by
  subst hn hn'
  refine (Oct.refSame_any A B ca cb l l _ _ W hA hB hl hl).mono ?_
  rintro e w ⟨he, hd⟩
  rw [beq_self_eq_true] at he
  exact ⟨he, hd.below _⟩

theorem wv_nil : wv [] = [126, 0, 0, 0, 0, 126] := by decide +kernel
theorem we_nil : we [] = 0 := by decide
theorem open_two : openF [126, 126] = none := by decide +kernel

set_option maxHeartbeats 2000000 in
set_option maxRecDepth 20000 in
theorem live_any (W : World) :
    Calls Try.prog 30 #[] W fun e W' => e = .returned (.bool true) ∧ Below W.heap.size W W' := by
  have HW := Lib.hid wv_nil
  have HE := Lib.hid we_nil
  have HO := Lib.hid open_two
  go_enter Try.func30, Try.ntmps30
  go_wp2_with fail
  refine (Crc.New_any _).mono ?_
  rintro e w1 ⟨b, rfl, ht1, _, hbs, hb1⟩
  go_wp2_with fail
  refine (Wrap_any b none 0 0 [] _ rfl (Nat.le_refl _) (by simp [maxLen]) ht1 hbs (Bytes.nil _ _ _)).mono ?_
  rw [HW.out, HE.out]
  rintro e w2 ⟨v2, rfl, ho2, hb2⟩
  obtain ⟨A2, c2, rfl, hc2, hm2, _⟩ := ho2.shape
  have hbx := below_alloc hb2 (.cells #[.int .u8 126, .int .u8 126] 5)
  have hl := lit_bytes 5 w2 [126, 126] #[.int .u8 126, .int .u8 126] rfl (by simp [maxLen])
  go_wp2_with fail
  refine (Open_any b (some ⟨w2.heap.size, 0, none⟩) 2 2 [126, 126] _ rfl (by simp) (by simp [maxLen]) (by simp) (ht1.below hbx hbs) (Nat.lt_of_lt_of_le hbs hbx.size) hl).mono ?_
  rw [HO.out]
  rintro e w3 ⟨v3, rfl, ho3, hb3⟩
  simp only [Stuff.eno]
  have hb13 := below_next hbx hb3
  have hX := (ho2.later (below_alloc (Below.refl _ _) (.cells #[.int .u8 126, .int .u8 126] 5))).later hb3
  clear ho2 hbx hl ho3 hb3
  go_wp2_with (go_at_call 27; refine (num_any _ _).mono ?_; rintro e w' ⟨rfl, rfl⟩)
  have hb4 := below_alloc (Below.refl w3.heap.size w3) (.cells #[.int .u8 126, .int .u8 0, .int .u8 0, .int .u8 0, .int .u8 0, .int .u8 126] 5)
  refine (same_yes A2 (some ⟨w3.heap.size, 0, none⟩) 6 6 c2 6 [126, 0, 0, 0, 0, 126] _ rfl rfl (hX.later hb4) (lit_bytes_at 5 _ _ (by simp) [126, 0, 0, 0, 0, 126] _ rfl (by simp [maxLen])) (by simp [maxLen])).mono ?_
  rintro e w4 ⟨rfl, hb5⟩
  have hb6 := below_next (below_next (below_next hb1 hb13) hb4) hb5
  go_wp2_with (go_at_call 27; refine (num_any _ _).mono ?_; rintro e w' ⟨rfl, rfl⟩)
  refine (Most_any 0 _).mono ?_
  rintro e w' ⟨rfl, rfl⟩
  go_wp2
  go_ret
  exact ⟨rfl, hb6⟩
theorem live_true (W : World) :
    Calls Try.prog 30 #[] W fun e W' => e = .returned (.bool true) ∧ Below W.heap.size W W' := live_any W

/-- the greatest length of a frame -/
def mst (n : Int) : Int := if 0 ≤ n ∧ n ≤ 96 then 2 * (n + 4) + 2 else 0
theorem wv_most (b : List UInt8) (h : b.length ≤ 96) : ((wv b).length : Int) ≤ mst b.length := by
  have h1 : wv b = wrapF b := if_pos h
  have h2 := wrapF_length b
  unfold mst
  rw [if_pos (by omega), h1]
  omega

set_option maxHeartbeats 2000000 in
/-- FrameWraps -/
theorem FrameWraps_any (A : Option Addr) (cap : Nat) (l : List UInt8) (n : Int) (W : World) (hA : Bytes W W.heap.size A l) (hc : l.length ≤ cap) (hm : cap ≤ maxLen) :
    Calls Try.prog 7 #[.slice A l.length cap, .int .i64 n] W fun e W' => e = .returned (.bool true) ∧ Below W.heap.size W W' := by
  have HWL := Lib.hid (wv_le l)
  have hq : (we l = 2) ∨ (we l = 0 ∧ ((wv l).length : Int) ≤ mst l.length) := by
    by_cases h : l.length ≤ 96
    · exact .inr ⟨if_pos h, wv_most l h⟩
    · exact .inl (if_neg h)
  have HQ := Lib.hid hq
  clear hq
  go_enter Try.func7, Try.ntmps7
  go_wp2_with fail
  refine (Crc.New_any _).mono ?_
  rintro e w1 ⟨b, rfl, ht1, _, hbs, hb1⟩
  go_wp2_with fail
  refine (Wrap_any b A _ cap l _ rfl hc hm ht1 hbs (hA.later hb1)).mono ?_
  rintro e w2 ⟨v2, rfl, ho2, hb2⟩
  obtain ⟨A2, c2, rfl, hc2, hm2, _⟩ := ho2.shape
  have hb02 := below_next hb1 hb2
  go_wp2_with fail
  refine (refWrap_any A _ cap l _ rfl (hA.later hb02)).mono ?_
  rintro e w3 ⟨v3, rfl, ho3, hb3⟩
  obtain ⟨A3, c3, rfl, hc3, hm3, _⟩ := ho3.shape
  have hb03 := below_next hb02 hb3
  have hX := ho2.later hb3
  have hY := ho3.bytes
  clear ho2 ho3
  generalize wv l = x at hX hY HWL HQ ⊢
  generalize we l = y at HQ ⊢
  have hxl : x.length ≤ maxLen := by have := HWL.out; unfold maxLen; omega
  have hcap : l.length ≤ 9223372036854775807 := by unfold maxLen at hm; omega
  go_wp2_with (go_at_call 27; refine (num_any _ _).mono ?_; rintro e w' ⟨rfl, rfl⟩)
  refine (same_yes A2 A3 _ _ c2 c3 x _ rfl rfl hX hY hxl).mono ?_
  rintro e w4 ⟨rfl, hb4⟩
  have hb04 := below_next hb03 hb4
  have c1 := fun (n : Int) (w : World) => Most_any n w
  have c2 := fun (n : Int) (w : World) => refMost_any n w
  have hmst : ∀ n : Int, (if 0 ≤ n ∧ n ≤ 96 then 2 * (n + 4) + 2 else 0) = mst n := fun _ => rfl
  simp only [hmst] at c1 c2
  have C1 := Lib.hid c1
  have C2 := Lib.hid c2
  clear c1 c2 hmst hX hY
  have HLV := Lib.hid live_true
  rcases HQ.out with hq | ⟨hq, hle⟩
  · subst hq
    generalize mst n = z at *
    go_wp2_with (go_at_call 27; refine (num_any _ _).mono ?_; rintro e w' ⟨rfl, rfl⟩)
    refine (C1.out n _).mono ?_
    rintro e w' ⟨rfl, rfl⟩
    go_wp2_with fail
    refine (C2.out n _).mono ?_
    rintro e w' ⟨rfl, rfl⟩
    go_wp2_with fail
    refine (HLV.out _).mono ?_
    rintro e w5 ⟨rfl, hb5⟩
    go_wp2
    go_ret
    exact ⟨rfl, below_next hb04 hb5⟩
  · subst hq
    go_wp2_with (go_at_call 27; refine (num_any _ _).mono ?_; rintro e w' ⟨rfl, rfl⟩)
    refine (C1.out _ _).mono ?_
    rintro e w' ⟨rfl, rfl⟩
    generalize mst (l.length : Int) = z1 at hle ⊢
    go_wp2_with fail
    refine (C1.out n _).mono ?_
    rintro e w' ⟨rfl, rfl⟩
    go_wp2_with fail
    refine (C2.out n _).mono ?_
    rintro e w' ⟨rfl, rfl⟩
    go_wp2_with fail
    refine (HLV.out _).mono ?_
    rintro e w5 ⟨rfl, hb5⟩
    go_wp2
    go_ret
    exact ⟨rfl, below_next hb04 hb5⟩
end Go.Proofs.Ytoicmhaegpnniaa.Frm
