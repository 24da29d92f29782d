
/- Layer 2 (crc): the page's examples, and the laws on sums and checks. -/
import Derived.Test.YtoicmhaegpnniaaCrcQ
import Derived.Lib.SlBytesConst
namespace Go.Proofs.Ytoicmhaegpnniaa.Crc
open Go.RowKit Go.Proofs.Ytoicmhaegpnniaa.Mem Go.Proofs.Ytoicmhaegpnniaa.Oct Go.Proofs.Ytoicmhaegpnniaa.CrcM

theorem Sum_nil (v : Value) (W : World) : Calls Try.prog 19 #[.pointer none, v] W fun e W' => e = .returned (.int .u32 0) ∧ W = W' := by
  go_enter Try.func19, Try.ntmps19
  go_wp2_with (go_at_call 36; refine (is_nil _).mono ?_; rintro e w' ⟨rfl, rfl⟩)
  go_ret
  exact ⟨rfl, rfl⟩
theorem Put_nil (v : Value) (W : World) : Calls Try.prog 14 #[.pointer none, v] W fun e W' => e = .returned (.slice none 0 0) ∧ W = W' := by
  go_enter Try.func14, Try.ntmps14
  go_wp2_with (go_at_call 36; refine (is_nil _).mono ?_; rintro e w' ⟨rfl, rfl⟩)
  go_ret
  exact ⟨rfl, rfl⟩
theorem Check_nil (v : Value) (W : World) : Calls Try.prog 15 #[.pointer none, v] W fun e W' => e = .returned (.tuple #[.slice none 0 0, .bool false]) ∧ W = W' := by
  go_enter Try.func15, Try.ntmps15
  go_wp2_with (go_at_call 36; refine (is_nil _).mono ?_; rintro e w' ⟨rfl, rfl⟩)
  go_ret2
  exact ⟨rfl, rfl⟩

theorem lit_bytes_m (E : TypeId) (w : World) (l : List UInt8) (cs : Array Value) (hcs : cs = (l.map bv).toArray) (m : Nat × Nat) : Bytes (w.alloc (.cells cs E m)) (w.alloc (.cells cs E m)).heap.size (some ⟨w.heap.size, 0, none⟩) l := by
  subst hcs
  intro hp
  refine ⟨w.heap.size, 0, rfl, by simp, fun i hi => ?_⟩
  rw [Nat.zero_add, cell_of_row _ w.heap.size i _ E m (heap_alloc_new w _)]
  simp [bv, byteAt, List.getD, hi]

def nine : List UInt8 := [49, 50, 51, 52, 53, 54, 55, 56, 57]
theorem sum_nine : sum nine = 3421780262 := by decide +kernel
theorem cput_empty : cput [] = [0, 0, 0, 0] := by decide +kernel

set_option maxHeartbeats 2000000 in
set_option maxRecDepth 20000 in
theorem live_any (W : World) :
    Calls Try.prog 12 #[] W fun e W' => e = .returned (.bool true) ∧ Below W.heap.size W W' := by
  have kc := fun (w : World) (C : Array Value) (n c : Nat) => Lib.run_convert_bytes_const (P := Try.prog) w 22 5 C n c Try.underlying22 Try.underlying5
  have HN := Lib.hid sum_nine
  have HE := Lib.hid cput_empty
  go_enter Try.func12, Try.ntmps12
  go_wp2_with fail
  refine (New_any _).mono ?_
  rintro e w1 ⟨b, rfl, ht1, hb0, hbs, hb1⟩
  have hb2 := below_alloc hb1 (.cells #[.int .u8 0, .int .u8 0, .int .u8 0, .int .u8 0] 5)
  have ht2 := ht1.below (below_alloc (Below.refl w1.heap.size w1) (.cells #[.int .u8 0, .int .u8 0, .int .u8 0, .int .u8 0] 5)) hbs
  go_wp2_with fail
  refine (Check_nil _ _).mono ?_
  rintro e w' ⟨rfl, rfl⟩
  obtain ⟨w2, hw2⟩ : ∃ w2, w2 = w1.alloc (.cells #[.int .u8 0, .int .u8 0, .int .u8 0, .int .u8 0] 5) := ⟨_, rfl⟩
  have hs2 : b < w2.heap.size := by rw [hw2]; simp; omega
  have hz2 : w2.heap.size = w1.heap.size + 1 := by rw [hw2]; simp
  rw [← hw2] at hb2 ht2 ⊢
  clear hw2 ht1 hb1 hbs hb0
  have HZ := Lib.hid hz2
  clear hz2
  have hlit := lit_bytes_m 5 w2 nine #[.int .u8 49, .int .u8 50, .int .u8 51, .int .u8 52, .int .u8 53, .int .u8 54, .int .u8 55, .int .u8 56, .int .u8 57] rfl (9, 10)
  have hl3 := below_alloc (Below.refl w2.heap.size w2) (.cells #[.int .u8 49, .int .u8 50, .int .u8 51, .int .u8 52, .int .u8 53, .int .u8 54, .int .u8 55, .int .u8 56, .int .u8 57] 5 (9, 10))
  have hT := texts1 22 _ (w2.heap.size + 1) (by simp) (show IsText (w2.alloc (.cells #[.int .u8 49, .int .u8 50, .int .u8 51, .int .u8 52, .int .u8 53, .int .u8 54, .int .u8 55, .int .u8 56, .int .u8 57] 5 (9, 10))) (.slice (some ⟨w2.heap.size, 0, none⟩) 9 9) nine from ⟨_, _, rfl, by decide, by simp [maxLen], hlit⟩)
  have hl4 := below_alloc hl3 (.cells #[.slice (some ⟨w2.heap.size, 0, none⟩) 9 9] 22)
  go_wp2_with fail
  refine (Sum_any b (some ⟨w2.heap.size + 1, 0, none⟩) 1 1 [nine] _ rfl (ht2.below hl4 hs2) hT (by simp [maxLen])).mono ?_
  rw [flat1, HN.out]
  rintro e w' ⟨rfl, rfl⟩
  have hb4 := below_next hb2 hl4
  have ht4 := ht2.below hl4 hs2
  go_wp2_with fail
  refine (Put_any b none 0 0 [] _ rfl (Nat.le_refl _) (by simp [maxLen]) (by simp) ht4 (by simp; omega) (Bytes.nil _ _ _)).mono ?_
  rw [HE.out]
  rintro e w5 ⟨v5, rfl, ho5, hb5⟩
  obtain ⟨A5, c5, rfl, _, _, _⟩ := ho5.shape
  have hb6 := below_next hb4 hb5
  clear hT hl3 hl4 ht4 hb4 hb5 ht2 hlit hb2
  have hl7 := below_alloc (Below.refl w5.heap.size w5) (.cells #[.int .u8 0, .int .u8 0, .int .u8 0, .int .u8 0] 5)
  go_wp2_with fail
  refine (refSame_any A5 (some ⟨w5.heap.size, 0, none⟩) c5 4 [0, 0, 0, 0] [0, 0, 0, 0] _ _ _ (ho5.later hl7) (lit_bytes_at 5 _ _ (by simp) [0, 0, 0, 0] _ rfl (by simp [maxLen])) (by simp [maxLen]) (by simp [maxLen])).mono ?_
  rintro e w7 ⟨rfl, hd⟩
  have hb7 := below_next hb6 (below_next hl7 (hd.below _))
  clear hd hl7 ho5 hb6
  go_wp2_with fail
  refine (Sum_nil _ _).mono ?_
  rintro e w' ⟨rfl, rfl⟩
  have hb8 := below_alloc (below_alloc hb7 (.cells #[.int .u8 97] 5 (1, 2))) (.cells #[.slice (some ⟨w7.heap.size, 0, none⟩) 1 1] 22)
  go_wp2_with fail
  refine (Put_nil _ _).mono ?_
  rintro e w' ⟨rfl, rfl⟩
  go_wp2
  go_ret
  exact ⟨rfl, hb8⟩

set_option maxHeartbeats 2000000 in
/-- CrcSums -/
theorem CrcSums_any (A : Option Addr) (cap : Nat) (l : List UInt8) (s : Int) (W : World) (hA : Bytes W W.heap.size A l) (hc : l.length ≤ cap) (hm : cap ≤ maxLen) (h0 : 0 ≤ s) (h1 : s ≤ 4294967295) :
    Calls Try.prog 5 #[.slice A l.length cap, .int .u32 s] W fun e W' => e = .returned (.bool true) ∧ Below W.heap.size W W' := by
  obtain ⟨s, rfl⟩ := Int.eq_ofNat_of_zero_le h0
  have hlm := Nat.le_trans hc hm
  by_cases hl : 4000 < l.length
  · have hl' : (4000 : Int) < l.length := by omega
    go_enter Try.func5, Try.ntmps5
    go_wp2_with fail
    refine (live_any _).mono ?_
    rintro e w ⟨rfl, hb⟩
    go_wp2
    go_ret
    exact ⟨rfl, hb⟩
  · have hl' : ¬ ((4000 : Int) < l.length) := by omega
    go_enter Try.func5, Try.ntmps5
    go_wp2_with fail
    refine (New_any _).mono ?_
    rintro e w1 ⟨b, rfl, ht1, _, hbs, hb1⟩
    have hA1 := hA.later hb1
    have hl2 := below_alloc (Below.refl w1.heap.size w1) (.cells #[.slice A l.length cap] 22)
    have hT := texts1 22 w1 _ rfl (show IsText w1 (.slice A l.length cap) l from ⟨A, cap, rfl, hc, hm, hA1⟩)
    have ht2 := ht1.below hl2 hbs
    have hA2 := hA1.later hl2
    have hb2 := below_next hb1 hl2
    go_wp2_with fail
    refine (Sum_any b (some ⟨w1.heap.size, 0, none⟩) 1 1 [l] _ rfl ht2 hT (by simp [maxLen])).mono ?_
    rw [flat1]
    rintro e w' ⟨rfl, rfl⟩
    go_wp2_with fail
    refine (refSum_any A _ cap l _ rfl hA2 hlm).mono ?_
    rintro e w' ⟨rfl, rfl⟩
    go_wp2_with fail
    refine (More_any b s A _ cap l _ rfl (by omega) ht2 hA2 hlm).mono ?_
    rintro e w' ⟨rfl, rfl⟩
    go_wp2_with fail
    refine (refMore_any s A _ cap l _ rfl (by omega) hA2 hlm).mono ?_
    rintro e w' ⟨rfl, rfl⟩
    go_wp2_with fail
    refine (live_any _).mono ?_
    rintro e w ⟨rfl, hb⟩
    go_wp2
    go_ret
    exact ⟨rfl, below_next hb2 hb⟩
end Go.Proofs.Ytoicmhaegpnniaa.Crc
