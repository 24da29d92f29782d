
/- Layer 2 (crc): the document's sums, bit by bit. -/
import Derived.Test.YtfieinajkkcelaaCrcP
namespace Go.Proofs.Ytfieinajkkcelaa.Crc
open Go.RowKit Go.Proofs.Ytfieinajkkcelaa.Mem Go.Proofs.Ytfieinajkkcelaa.Oct Go.Proofs.Ytfieinajkkcelaa.CrcM

set_option maxHeartbeats 2000000 in
theorem refFeed_any (x : Nat) (A : Option Addr) (n cap : Nat) (l : List UInt8) (W : World) (hn : n = l.length) (hx : x < 4294967296) (hA : Bytes W W.heap.size A l) (hl : l.length ≤ maxLen) :
    Calls Try.prog 62 #[.int .u32 x, .slice A n cap] W fun e W' => e = .returned (.int .u32 (feed x l : Nat)) ∧ W = W' := by
  subst hn
  unfold maxLen at hl
  go_enter Try.func62, Try.ntmps62
  go_wp2_with fail
  go_loop [0, 5] (fun v i => ∃ k : Nat, k ≤ l.length ∧ i = .int .i64 k ∧ v = .int .u32 (feed x (l.take k) : Nat)) (fun _ i => l.length - (intOf i).toNat)
  case atStart => exact ⟨0, Nat.zero_le _, rfl, rfl⟩
  case round =>
    obtain ⟨k, hk, rfl, rfl⟩ := hrel
    by_cases hlt : k < l.length
    · obtain ⟨bb, off, rfl, _, hc⟩ := hA.at_ hlt
      have hr := byteAt_range l k
      have HS := Lib.hid (feed_step x l k hlt)
      have hf := feed_lt (l.take k) hx
      generalize feed x (l.take k) = y at HS hf ⊢
      have hz := byte_lt (nth8 l k)
      have hv : byteAt l k = ((nth8 l k).toNat : Int) := rfl
      rw [hv] at hc hr
      generalize (nth8 l k).toNat = z at hc hr HS hz
      have hw : IntKind.u32.wrap (z : Int) = z := by rw [IntKind.wrap_u32]; omega
      have h3 := xor_u32 y z hf (by omega)
      have hyz := word_xor_lt hf (show z < 4294967296 by omega)
      have hd : decide ((k : Int) < (l.length : Int)) = true := by simp; omega
      generalize y ^^^ z = t at h3 hyz HS
      clear hv
      go_wp2_with fail
      go_loop [0, 6] (fun v j => ∃ q : Nat, q ≤ 8 ∧ j = .int .i64 q ∧ v = .int .u32 (steps q t : Nat)) (fun _ j => 8 - (intOf j).toNat)
      case atStart => exact ⟨0, by omega, rfl, rfl⟩
      case round =>
        obtain ⟨q, hq, rfl, rfl⟩ := hrel
        have hs := steps_lt q hyz
        have HQ := Lib.hid (steps_succ q t)
        by_cases hlq : q < 8
        · generalize steps q t = p at hs HQ ⊢
          by_cases hp : p % 2 = 1
          · have hp1 : ((p : Int) % 2 == 1) = true := by simp; omega
            have hp2 : bits .xor .u32 ((p : Int) / 2) 3988292384 = ((p / 2 ^^^ 3988292384 : Nat) : Int) := by
              have := xor_u32 (p / 2) 3988292384 (by omega) (by omega)
              simpa using this
            have HC := Lib.hid (show cstep p = (p / 2 ^^^ 3988292384 : Nat) from if_pos hp)
            generalize (p / 2 ^^^ 3988292384 : Nat) = r at hp2 HC
            clear hp
            go_wp2_with fail
            go_round
            case rel => exact ⟨q + 1, by omega, by go_num, by rw [HQ.out, HC.out]⟩
            case measure => simp [intOf]; omega
          · have hp1 : ((p : Int) % 2 == 1) = false := by simp; omega
            have HC := Lib.hid (show cstep p = p / 2 from if_neg hp)
            clear hp
            go_wp2_with fail
            go_round
            case rel => exact ⟨q + 1, by omega, by go_num, by rw [HQ.out, HC.out]; simp⟩
            case measure => simp [intOf]; omega
        · obtain rfl : q = 8 := by omega
          go_wp2_with fail
          go_round
          case rel => exact ⟨k + 1, by omega, by go_num, by rw [HS.out]⟩
          case measure => simp [intOf]; omega
    · have HK := Lib.hid (show l.take k = l from List.take_of_length_le (by omega))
      go_wp2
      go_ret
      exact ⟨ret_int (by rw [HK.out]), rfl⟩

theorem xor_ones (x : Nat) (h : x < 4294967296) : bits .xor .u32 (x : Int) 4294967295 = ((x ^^^ ones : Nat) : Int) := xor_u32 x 4294967295 h (by decide)

theorem refSum_any (A : Option Addr) (n cap : Nat) (l : List UInt8) (W : World) (hn : n = l.length) (hA : Bytes W W.heap.size A l) (hl : l.length ≤ maxLen) :
    Calls Try.prog 50 #[.slice A n cap] W fun e W' => e = .returned (.int .u32 (sum l : Nat)) ∧ W = W' := by
  subst hn
  have h1 := xor_ones _ (feed_lt l (show ones < 4294967296 by decide))
  have hc := refFeed_any ones A l.length cap l W rfl (by decide) hA hl
  have HS := Lib.hid (show sum l = feed ones l ^^^ ones from rfl)
  have HC := Lib.hid hc
  clear hc
  generalize feed ones l = y at h1 HS HC
  go_enter Try.func50, Try.ntmps50
  go_wp2_with (go_at_call 62; refine HC.out.mono ?_; rintro e w' ⟨rfl, rfl⟩)
  go_ret
  exact ⟨ret_int (by rw [HS.out]), rfl⟩

end Go.Proofs.Ytfieinajkkcelaa.Crc
