
/- Layer 2 (crc): the law on parts. -/
import Derived.Test.YtoicmhaegpnniaaCrcL
import Derived.Test.YtoicmhaegpnniaaOctD
namespace Go.Proofs.Ytoicmhaegpnniaa.Crc
open Go.RowKit Go.Proofs.Ytoicmhaegpnniaa.Mem Go.Proofs.Ytoicmhaegpnniaa.Oct Go.Proofs.Ytoicmhaegpnniaa.CrcM

theorem nthT_take (ls : List (List UInt8)) (k i : Nat) (h : i < k) : nthT (ls.take k) i = nthT ls i := by
  unfold nthT
  simp [List.getD, h]
theorem texts_take {w : World} {B : Nat} {A : Option Addr} {ls : List (List UInt8)} (h : Texts w B A ls) {k : Nat} (hk : k ≤ ls.length) : Texts w B A (ls.take k) := by
  intro hp
  simp only [List.length_take] at hp
  obtain ⟨b, off, rfl, hb, hcell⟩ := h (by omega)
  refine ⟨b, off, rfl, hb, fun i hi => ?_⟩
  simp only [List.length_take] at hi
  rw [nthT_take _ _ _ (by omega)]
  exact hcell i (by omega)

/-- what huge answers -/
def Small (W : World) (ls : List (List UInt8)) (e : Ending) (W' : World) : Prop :=
  W = W' ∧ (e = .returned (.bool true) ∨ (e = .returned (.bool false) ∧ tot ls ls.length ≤ 4000 ∧ ls.length ≤ 101))

set_option maxHeartbeats 1000000 in
theorem huge_any (A : Option Addr) (cap : Nat) (ls : List (List UInt8)) (W : World) (hA : Texts W W.heap.size A ls) (hr : ∀ i, i < ls.length → (nthT ls i).length ≤ 140737488355328) :
    Calls Try.prog 23 #[.slice A ls.length cap] W (Small W ls) := by
  have HR := Lib.hid hr
  clear hr
  go_enter Try.func23, Try.ntmps23
  go_wp2_with fail
  go_loop [3, 4] (fun n i => ∃ k : Nat, k ≤ ls.length ∧ k ≤ 101 ∧ i = .int .i64 k ∧ n = .int .i64 (tot ls k) ∧ tot ls k ≤ 4000) (fun _ i => ls.length - (intOf i).toNat)
  case atStart => exact ⟨0, Nat.zero_le _, by omega, rfl, rfl, Nat.zero_le _⟩
  case round =>
    obtain ⟨k, hk, hk1, rfl, rfl, ht⟩ := hrel
    by_cases hlt : k < ls.length
    · obtain ⟨b, off, Ai, ci, rfl, _, hc, _, _, _⟩ := hA.at_ hlt
      have hs := tot_next ls k hlt
      have hri := HR.out k hlt
      have HS := Lib.hid hs
      have hsi : (tot ls k : Int) + ((nthT ls k).length : Int) = (tot ls (k + 1) : Int) := by omega
      by_cases h4 : tot ls (k + 1) ≤ 4000
      · have h4' : ¬ ((4000 : Int) < (tot ls (k + 1) : Int)) := by omega
        clear hs
        by_cases h1 : k ≤ 100
        · have h1' : ¬ ((100 : Int) < (k : Int)) := by omega
          go_wp2_with fail
          go_round
          case rel => exact ⟨k + 1, by omega, by omega, by go_num, by first | rfl | simp | (rw [hsi]), h4⟩
          case measure => simp [intOf]; omega
        · have h1' : (100 : Int) < (k : Int) := by omega
          go_wp2_with fail
          go_ret
          exact ⟨rfl, .inl rfl⟩
      · have h4' : (4000 : Int) < (tot ls (k + 1) : Int) := by omega
        clear hs
        go_wp2_with fail
        go_ret
        exact ⟨rfl, .inl rfl⟩
    · obtain rfl : k = ls.length := by omega
      go_wp2_with fail
      go_ret
      exact ⟨rfl, .inr ⟨rfl, ht, hk1⟩⟩

set_option maxHeartbeats 4000000 in
/-- CrcParts -/
theorem CrcParts_any (A : Option Addr) (cap : Nat) (ls : List (List UInt8)) (at_ : Int) (W : World) (hA : Texts W W.heap.size A ls) (hn : ls.length ≤ 140737488355328) (hc : ls.length ≤ cap) (hm : cap ≤ maxLen) (hr : ∀ i, i < ls.length → (nthT ls i).length ≤ 140737488355328) :
    Calls Try.prog 6 #[.slice A ls.length cap, .int .i64 at_] W fun e W' => e = .returned (.bool true) ∧ Below W.heap.size W W' := by
  have hhuge := huge_any A cap ls W hA hr
  have HH := Lib.hid hhuge
  clear hhuge hr
  by_cases hin : 0 ≤ at_ ∧ at_ ≤ ls.length
  · obtain ⟨p, rfl⟩ : ∃ p : Nat, (p : Int) = at_ := ⟨at_.toNat, by omega⟩
    have hp : p ≤ ls.length := by omega
    clear hin
    unfold maxLen at hm
    go_enter Try.func6, Try.ntmps6
    go_wp2_with fail
    refine HH.out.mono ?_
    rintro e w ⟨rfl, rfl | ⟨rfl, h4, h1⟩⟩
    · go_wp2_with fail
      refine (live_any _).mono ?_
      rintro e w ⟨rfl, hb⟩
      go_wp2
      go_ret
      exact ⟨rfl, hb⟩
    · have hpc : p ≤ cap := by omega
      have HFL := Lib.hid (show (ls.flatten).length ≤ 4000 by have := h4; unfold tot at this; rw [flat_all] at this; exact this)
      clear h4
      go_wp2_with fail
      refine (New_any _).mono ?_
      rintro e w1 ⟨b, rfl, ht1, _, hbs, hb1⟩
      have hA1 := hA.later hb1
      have hT := texts_take hA1 hp
      go_wp2_with fail
      refine (Sum_any b A p cap (ls.take p) _ (by rw [List.length_take]; omega) ht1 hT (by rw [List.length_take]; unfold maxLen; omega)).mono ?_
      rintro e w' ⟨rfl, rfl⟩
      rw [show (ls.take p).flatten = flat ls p from rfl]
      go_wp2_with fail
      go_loop [6, 7] (fun x i => ∃ k : Nat, k ≤ ls.length ∧ i = .int .i64 k ∧ x = .int .u32 (sum (flat ls k) : Nat)) (fun _ i => ls.length - (intOf i).toNat)
      case atStart => exact ⟨p, hp, rfl, rfl⟩
      case round =>
        obtain ⟨k, hk, rfl, rfl⟩ := hrel
        by_cases hlt : k < ls.length
        · obtain ⟨bb, off, Ai, ci, rfl, _, hcell, hci, hcm, hby⟩ := hA1.at_ hlt
          have HS := Lib.hid (show more (sum (flat ls k)) (nthT ls k) = sum (flat ls (k + 1)) by rw [more_sum, flat_next ls k hlt])
          have hs := sum_lt (flat ls k)
          go_wp2_with (go_at_call 21; refine (More_any b _ Ai _ ci (nthT ls k) _ rfl hs ht1 hby (Nat.le_trans hci hcm)).mono ?_; rintro e w' ⟨rfl, rfl⟩)
          go_round
          case rel => exact ⟨k + 1, by omega, by go_num, by rw [HS.out]⟩
          case measure => simp [intOf]; omega
        · obtain rfl : k = ls.length := by omega
          rw [flat_all]
          go_wp2_with fail
          refine (Sum_any b A _ cap ls _ rfl ht1 hA1 (by unfold maxLen; omega)).mono ?_
          rintro e w' ⟨rfl, rfl⟩
          go_wp2_with fail
          refine (refJoin_any A cap ls _ hA1 hn (by have := HFL.out; omega)).mono ?_
          rintro e w2 ⟨v2, rfl, ho2, hb2⟩
          have ht2 := ht1.below hb2 hbs
          generalize ls.flatten = fl at ho2 ⊢
          obtain ⟨A2, c2, rfl, _, _, _⟩ := ho2.shape
          have hl3 := below_alloc (Below.refl w2.heap.size w2) (.cells #[.slice A2 fl.length c2] 22)
          have hT2 := texts1 22 w2 _ rfl ho2.text
          have hb02 := below_next (below_next hb1 hb2) hl3
          have ht3 := ht2.below hl3 (Nat.lt_of_lt_of_le hbs hb2.size)
          go_wp2_with fail
          refine (Sum_any b (some ⟨w2.heap.size, 0, none⟩) 1 1 [fl] _ rfl ht3 hT2 (by simp [maxLen])).mono ?_
          rw [flat1]
          rintro e w' ⟨rfl, rfl⟩
          go_wp2_with fail
          refine (live_any _).mono ?_
          rintro e w ⟨rfl, hb⟩
          go_wp2
          go_ret
          exact ⟨rfl, below_next hb02 hb⟩
  · have hx : at_ < 0 ∨ (¬ at_ < 0 ∧ (ls.length : Int) < at_) := by omega
    clear hin
    rcases hx with hx | ⟨hx, hy⟩
    all_goals (
      go_enter Try.func6, Try.ntmps6
      go_wp2_with fail
      refine HH.out.mono ?_
      rintro e w ⟨rfl, rfl | ⟨rfl, h4, h1⟩⟩
      all_goals (
        go_wp2_with fail
        refine (live_any _).mono ?_
        rintro e w ⟨rfl, hb⟩
        go_wp2
        go_ret
        exact ⟨rfl, hb⟩))
end Go.Proofs.Ytoicmhaegpnniaa.Crc
