
/- Layer 2 (crc): sums, and their bytes. -/
import Derived.Test.YtogijioehdaefaaCrc
import Derived.RegionTactic
namespace Go.Proofs.Ytogijioehdaefaa.Crc
open Go.RowKit Go.Proofs.Ytogijioehdaefaa.Mem Go.Proofs.Ytogijioehdaefaa.Oct Go.Proofs.Ytogijioehdaefaa.CrcM

theorem not_u32 (x : Nat) (h : x < 4294967296) : bits .xor .u32 IntKind.u32.max (x : Int) = ((x ^^^ ones : Nat) : Int) := by
  have := xor_u32 4294967295 x (by decide) h
  rw [Nat.xor_comm] at this
  exact this
theorem sgn : IntKind.u32.signed = false := rfl

def turn4 (k : Nat) (a b c d : UInt8) : List UInt8 := match k with
  | 0 => [a, b, c, d]
  | 1 => [d, b, c, a]
  | _ => [d, c, b, a]
set_option maxHeartbeats 1000000 in
/-- the four bytes of a sum, turned about -/
theorem Reverse4 (base g cap : Nat) (a b c d : UInt8) (W : World) (ho : Own 5 W base (.slice (some ⟨g, 0, none⟩) 4 cap) [a, b, c, d]) :
    Calls Try.prog 42 #[.slice (some ⟨g, 0, none⟩) 4 cap] W fun e W' => e = .returned (.tuple #[]) ∧ Own 5 W' base (.slice (some ⟨g, 0, none⟩) 4 cap) [d, c, b, a] ∧ Below base W W' := by
  have hgb := (ho.lt g rfl).1
  go_enter Try.func42, Try.ntmps42
  go_wp2_with fail
  go_loopw [2, 3] (fun i j wr => ∃ k : Nat, k ≤ 2 ∧ i = .int .i64 k ∧ j = .int .i64 (3 - (k : Int)) ∧ Own 5 wr base (.slice (some ⟨g, 0, none⟩) 4 cap) (turn4 k a b c d) ∧ Below base W wr) (fun i _ _ => 2 - (intOf i).toNat)
  case atStart => exact ⟨0, by omega, rfl, rfl, ho, Below.refl _ _⟩
  case round =>
    obtain ⟨k, hk, rfl, rfl, ho, hb⟩ := hrel
    have hk3 : k = 0 ∨ k = 1 ∨ k = 2 := by omega
    rcases hk3 with rfl | rfl | rfl
    · replace ho : Own 5 wr base (.slice (some ⟨g, 0, none⟩) 4 cap) [a, b, c, d] := ho
      have c0 := ho.cellAt (j := 0) (by simp)
      have c1 := ho.cellAt (j := 3) (by simp)
      have HO := Lib.hid ((ho.set 0 d).set 3 a)
      clear ho
      go_wp2_with fail
      go_region
      all_goals go_wp2_with fail
      all_goals go_roundw
      case rel => exact ⟨1, by omega, rfl, rfl, HO.out, ((hb.setCell hgb _).setCell hgb _).drew⟩
      case measure => simp [intOf]
    · replace ho : Own 5 wr base (.slice (some ⟨g, 0, none⟩) 4 cap) [d, b, c, a] := ho
      have c0 := ho.cellAt (j := 1) (by simp)
      have c1 := ho.cellAt (j := 2) (by simp)
      have HO := Lib.hid ((ho.set 1 c).set 2 b)
      clear ho
      go_wp2_with fail
      go_region
      all_goals go_wp2_with fail
      all_goals go_roundw
      case rel => exact ⟨2, by omega, rfl, rfl, HO.out, ((hb.setCell hgb _).setCell hgb _).drew⟩
      case measure => simp [intOf]
    · replace ho : Own 5 wr base (.slice (some ⟨g, 0, none⟩) 4 cap) [d, c, b, a] := ho
      go_wp2_with fail
      go_end0
      exact ⟨rfl, ho, hb⟩

theorem own_row {E : TypeId} {w : World} {base : Nat} {v : Value} {l : List UInt8} (h : Own E w base v l) (hne : 0 < l.length) : ∃ g cap, v = .slice (some ⟨g, 0, none⟩) l.length cap ∧ base ≤ g ∧ l.length ≤ cap ∧ cap ≤ maxLen := by
  rcases h.2 with ⟨_, h0⟩ | ⟨g, cap, cur, rfl, hb, _, hn, hm, _⟩
  · omega
  · exact ⟨g, cap, rfl, hb, hn, hm⟩

theorem put4 (s : Nat) : putW (s : Int) 4 = [UInt8.ofNat (s / 16777216), UInt8.ofNat (s / 65536), UInt8.ofNat (s / 256), UInt8.ofNat s] := by
  have e := putW_eq (s : Int) 4 (by omega) (by omega)
  simp only [Int.toNat_natCast] at e
  rw [show ((4 : Nat) : Int) = 4 from rfl] at e
  rw [e]
  simp [put]

end Go.Proofs.Ytogijioehdaefaa.Crc
