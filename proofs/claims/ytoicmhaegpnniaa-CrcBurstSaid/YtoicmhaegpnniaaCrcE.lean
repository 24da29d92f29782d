
/- Layer 2 (crc): the law on bursts. -/
import Derived.Test.YtoicmhaegpnniaaCrcL
import Derived.Test.YtoicmhaegpnniaaCrcB
namespace Go.Proofs.Ytoicmhaegpnniaa.Crc
open Go.RowKit Go.Proofs.Ytoicmhaegpnniaa.Mem Go.Proofs.Ytoicmhaegpnniaa.Oct Go.Proofs.Ytoicmhaegpnniaa.CrcM

set_option maxHeartbeats 4000000 in
/-- CrcBurst -/
theorem CrcBurst_any (A : Option Addr) (cap : Nat) (l : List UInt8) (at_ s : Int) (W : World) (hA : Bytes W W.heap.size A l) (hc : l.length ≤ cap) (hm : cap ≤ maxLen) (h0 : 0 ≤ s) (h1 : s ≤ 4294967295) :
    Calls Try.prog 4 #[.slice A l.length cap, .int .i64 at_, .int .u32 s] W fun e W' => e = .returned (.bool true) ∧ Below W.heap.size W W' := by
  by_cases hin : l.length ≤ 4000 ∧ 0 ≤ at_ ∧ at_ ≤ l.length ∧ s ≠ 0
  · obtain ⟨g0, g1, g2, g3⟩ := hin
    obtain ⟨p, rfl⟩ : ∃ p : Nat, (p : Int) = at_ := ⟨at_.toNat, by omega⟩
    obtain ⟨s, rfl⟩ := Int.eq_ofNat_of_zero_le h0
    have hl' : ¬ ((4000 : Int) < l.length) := by omega
    have hp' : ¬ ((l.length : Int) < (p : Int)) := by omega
    have hs0 : ((s : Int) == 0) = false := by simp; omega
    have HB := Lib.hid (burst_bad l p s (by omega) (by omega) (by omega))
    have HPL := Lib.hid (cput_length l)
    have HBL := Lib.hid (fun k => burst_length (cput l) p s k)
    go_enter Try.func4, Try.ntmps4
    go_wp2_with fail
    refine (New_any _).mono ?_
    rintro e w1 ⟨b, rfl, ht1, _, hbs, hb1⟩
    go_wp2_with fail
    refine (Put_any b A _ cap l _ rfl hc hm (by omega) ht1 hbs (hA.later hb1)).mono ?_
    rintro e w2 ⟨v2, rfl, ho2, hb2⟩
    obtain ⟨g, c2, rfl, hg2, hc2, hm2⟩ := own_row ho2 (by rw [HPL.out]; omega)
    have ht2 := ht1.below hb2 hbs
    rw [HPL.out] at hc2 ⊢
    have HT := Lib.hid ht2
    have HO := Lib.hid ho2
    have HB2 := Lib.hid hb2
    clear ht2 ho2 hb2
    have hne : (((l.length + 4 : Nat) : Int) != (l.length : Int) + 4) = false := by simp
    go_wp2_with fail
    go_loopw [9] (fun i wr => ∃ k : Nat, k ≤ 4 ∧ i = .int .i64 k ∧ Own 5 wr w1.heap.size (.slice (some ⟨g, 0, none⟩) (l.length + 4) c2) (burst (cput l) p s k) ∧ Below w1.heap.size w1 wr) (fun i _ => 4 - (intOf i).toNat)
    case atStart => exact ⟨0, by omega, rfl, by have := HO.out; rw [HPL.out] at this; exact this, HB2.out⟩
    case round =>
      obtain ⟨k, hk, rfl, ho, hb⟩ := hrel
      by_cases hlt : k < 4
      · obtain ⟨hc1, hf1⟩ := ho.cellAt (j := p + k) (by rw [HBL.out, HPL.out]; omega)
        have hr := byteAt_range (burst (cput l) p s k) (p + k)
        have hj2 : (p : Int) + (k : Int) < (l.length : Int) + 4 := by omega
        go_wp2_with fail
        go_roundw
        case rel =>
          have hs := ho.set (p + k) (nth8 (burst (cput l) p s k) (p + k) ^^^ UInt8.ofNat (s / 256 ^ k))
          have hv : bits .xor .u8 (byteAt (burst (cput l) p s k) (p + k)) ((s : Int) / 2 ^ (8 * k) % 256) = ((nth8 (burst (cput l) p s k) (p + k) ^^^ UInt8.ofNat (s / 256 ^ k)).toNat : Int) := by
            rw [putc (s : Int) (by omega) k, Int.toNat_natCast]
            exact (xor_u8 _ _ (byte_lt _) (byte_lt _)).trans (by rw [UInt8.toNat_xor]; rfl)
          rw [hv]
          exact ⟨k + 1, by omega, by go_num, hs, hb.setCell hg2 _⟩
        case measure => simp [intOf]; omega
      · obtain rfl : k = 4 := by omega
        have hby := ho.bytes
        have ht3 := ht1.below hb hbs
        have hlen : (burst (cput l) p s 4).length = l.length + 4 := by rw [HBL.out, HPL.out]
        have HLEN := Lib.hid hlen
        clear hlen
        go_wp2_with fail
        refine (Check_any b (some ⟨g, 0, none⟩) (l.length + 4) c2 (burst (cput l) p s 4) _ HLEN.out.symm (by rw [HLEN.out]; exact hc2) hm2 (by rw [HLEN.out]; omega) ht3 (Nat.lt_of_lt_of_le hbs hb.size) hby).mono ?_
        rintro e w5 ⟨v5, rfl, ho5, hb5⟩
        rw [HB.out]
        obtain ⟨A5, c5, rfl, _, _, _⟩ := ho5.shape
        go_wp2_with fail
        refine (live_any _).mono ?_
        rintro e w ⟨rfl, hbl⟩
        go_wp2
        go_ret
        exact ⟨rfl, below_next (below_next (below_next hb1 hb) hb5) hbl⟩
  · have hx : 4000 < l.length ∨ (¬ 4000 < l.length ∧ at_ < 0) ∨ (¬ 4000 < l.length ∧ ¬ at_ < 0 ∧ (l.length : Int) < at_) ∨ (¬ 4000 < l.length ∧ ¬ at_ < 0 ∧ ¬ (l.length : Int) < at_ ∧ s = 0) := by omega
    clear hin
    rcases hx with hx | ⟨hx, hy⟩ | ⟨hx, hy, hz⟩ | ⟨hx, hy, hz, rfl⟩
    · have hx' : (4000 : Int) < l.length := by omega
      go_enter Try.func4, Try.ntmps4
      go_wp2_with fail
      refine (New_any _).mono ?_
      rintro e w1 ⟨b, rfl, ht1, _, hbs, hb1⟩
      go_wp2_with fail
      refine (live_any _).mono ?_
      rintro e w ⟨rfl, hb⟩
      go_wp2
      go_ret
      exact ⟨rfl, below_next hb1 hb⟩
    all_goals (
      have hx' : ¬ ((4000 : Int) < l.length) := by omega
      go_enter Try.func4, Try.ntmps4
      go_wp2_with fail
      refine (New_any _).mono ?_
      rintro e w1 ⟨b, rfl, ht1, _, hbs, hb1⟩
      go_wp2_with fail
      refine (live_any _).mono ?_
      rintro e w ⟨rfl, hb⟩
      go_wp2
      go_ret
      exact ⟨rfl, below_next hb1 hb⟩)
end Go.Proofs.Ytoicmhaegpnniaa.Crc
