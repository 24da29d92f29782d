
/- Layer 2 (crc): the law on checks. -/
import Derived.Test.YtoicmhaegpnniaaCrcL
namespace Go.Proofs.Ytoicmhaegpnniaa.Crc
open Go.RowKit Go.Proofs.Ytoicmhaegpnniaa.Mem Go.Proofs.Ytoicmhaegpnniaa.Oct Go.Proofs.Ytoicmhaegpnniaa.CrcM

theorem cbody_length (l : List UInt8) : (cbody l).length ≤ l.length := by
  unfold cbody
  split
  · rw [List.length_take]; omega
  · simp

set_option maxHeartbeats 4000000 in
/-- CrcChecks -/
theorem CrcChecks_any (A B : Option Addr) (ca cb : Nat) (l m : List UInt8) (W : World) (hA : Bytes W W.heap.size A l) (hB : Bytes W W.heap.size B m) (hc : l.length ≤ ca) (hcm : ca ≤ maxLen) (hd : m.length ≤ cb) (hdm : cb ≤ maxLen) :
    Calls Try.prog 3 #[.slice A l.length ca, .slice B m.length cb] W fun e W' => e = .returned (.bool true) ∧ Below W.heap.size W W' := by
  by_cases hl : 4000 < l.length
  · have hl' : (4000 : Int) < l.length := by omega
    go_enter Try.func3, Try.ntmps3
    go_wp2_with fail
    refine (live_any _).mono ?_
    rintro e w ⟨rfl, hb⟩
    go_wp2
    go_ret
    exact ⟨rfl, hb⟩
  · have hl' : ¬ ((4000 : Int) < l.length) := by omega
    by_cases hml : 4000 < m.length
    · have hml' : (4000 : Int) < m.length := by omega
      go_enter Try.func3, Try.ntmps3
      go_wp2_with fail
      refine (live_any _).mono ?_
      rintro e w ⟨rfl, hb⟩
      go_wp2
      go_ret
      exact ⟨rfl, hb⟩
    · have hml' : ¬ ((4000 : Int) < m.length) := by omega
      have HPL := Lib.hid (cput_length l)
      have HCB := Lib.hid (cbody_length m)
      obtain ⟨k1, k2⟩ := cok_put l
      have K1 := Lib.hid k1
      have K2 := Lib.hid k2
      clear k1 k2
      go_enter Try.func3, Try.ntmps3
      go_wp2_with fail
      refine (New_any _).mono ?_
      rintro e w1 ⟨b, rfl, ht1, _, hbs, hb1⟩
      go_wp2_with fail
      refine (Put_any b A _ ca l _ rfl hc hcm (by omega) ht1 hbs (hA.later hb1)).mono ?_
      rintro e w2 ⟨v2, rfl, ho2, hb2⟩
      obtain ⟨A2, c2, rfl, hc2, hm2, _⟩ := ho2.shape
      have ht2 := ht1.below hb2 hbs
      have hs2 := Nat.lt_of_lt_of_le hbs hb2.size
      have hb02 := below_next hb1 hb2
      go_wp2_with fail
      refine (Check_any b A2 _ c2 (cput l) _ rfl hc2 hm2 (by rw [HPL.out]; omega) ht2 hs2 ho2.bytes).mono ?_
      rintro e w3 ⟨v3, rfl, ho3, hb3⟩
      rw [K2.out] at ho3
      rw [K1.out]
      obtain ⟨A3, c3, rfl, hc3, hm3, _⟩ := ho3.shape
      have ht3 := ht2.below hb3 hs2
      have hs3 := Nat.lt_of_lt_of_le hs2 hb3.size
      have hb03 := below_next hb02 hb3
      have hX2 := ho2.later hb3
      go_wp2_with fail
      refine (Check_any b B _ cb m _ rfl hd hdm (by omega) ht3 hs3 (hB.later hb03)).mono ?_
      rintro e w4 ⟨v4, rfl, ho4, hb4⟩
      obtain ⟨A4, c4, rfl, hc4, hm4, _⟩ := ho4.shape
      have hb04 := below_next hb03 hb4
      have hX2' := hX2.later hb4
      have hX3 := ho3.later hb4
      go_wp2_with fail
      refine (refCheck_any B _ cb m _ rfl hd (hB.later hb04) (by omega)).mono ?_
      rintro e w5 ⟨v5, rfl, ho5, hb5⟩
      obtain ⟨A5, c5, rfl, hc5, hm5, _⟩ := ho5.shape
      have hb05 := below_next hb04 hb5
      have hX25 := hX2'.later hb5
      have hX35 := hX3.later hb5
      have hX45 := ho4.later hb5
      go_wp2_with fail
      refine (refCput_any A _ ca l _ rfl (hA.later hb05) (by omega)).mono ?_
      rintro e w6 ⟨v6, rfl, ho6, hb6⟩
      obtain ⟨A6, c6, rfl, hc6, hm6, _⟩ := ho6.shape
      have hb06 := below_next hb05 hb6
      have hX26 := hX25.later hb6
      have hX36 := hX35.later hb6
      have hX46 := hX45.later hb6
      have hX56 := ho5.later hb6
      have hml2 : (cput l).length ≤ maxLen := by rw [HPL.out]; unfold maxLen; omega
      go_wp2_with fail
      refine (refSame_any A2 A6 c2 c6 (cput l) (cput l) _ _ _ hX26 ho6.bytes hml2 hml2).mono ?_
      rintro e w7 ⟨he, hd7⟩
      rw [beq_self_eq_true] at he
      obtain rfl := he
      have hb7 := hd7.below w6.heap.size
      have hb07 := below_next hb06 hb7
      go_wp2_with fail
      refine (refSame_any A3 A c3 ca l l _ _ _ (hX36.later hb7) (hA.later hb07) (by unfold maxLen; omega) (by unfold maxLen; omega)).mono ?_
      rintro e w8 ⟨he, hd8⟩
      rw [beq_self_eq_true] at he
      obtain rfl := he
      have hb8 := hd8.below w7.heap.size
      have hb08 := below_next hb07 hb8
      have hbl : (cbody m).length ≤ maxLen := by have := HCB.out; unfold maxLen; omega
      have hok : (cok m == cok m) = true := beq_self_eq_true _
      go_wp2_with fail
      refine (refSame_any A4 A5 c4 c5 (cbody m) (cbody m) _ _ _ ((hX46.later hb7).later hb8) ((hX56.later hb7).later hb8) hbl hbl).mono ?_
      rintro e w9 ⟨he, hd9⟩
      rw [beq_self_eq_true] at he
      obtain rfl := he
      have hb09 := below_next hb08 (hd9.below w8.heap.size)
      go_wp2_with fail
      refine (live_any _).mono ?_
      rintro e w ⟨rfl, hb⟩
      go_wp2
      go_ret
      exact ⟨rfl, below_next hb09 hb⟩
end Go.Proofs.Ytoicmhaegpnniaa.Crc
