
/- Layer 14 (slide): the document's Put. -/
import Derived.Test.YtonjdkankegdaaaSlide
import Derived.Deep.RegionHeld3
import Derived.Deep.DrawnRows
attribute [local go_sem ↓] Go.wp_at_zero Go.wp_at_succ
namespace Go.Proofs.Ytonjdkankegdaaa.Slide
open Go.RowKit Go.Proofs.Ytonjdkankegdaaa.Mem Go.Proofs.Ytonjdkankegdaaa.Oct Go.Proofs.Ytonjdkankegdaaa.Pkt

set_option maxHeartbeats 4000000 in
theorem refPutF_any (seq bits : Int) (A : Option Addr) (cap : Nat) (l : List UInt8) (m : Int) (W : World) (hA : Bytes W W.heap.size A l) (hl : l.length ≤ maxLen) (h : mOk m = true) (hk : slOk false seq bits l.length m = true) :
    Calls Try.prog 13 #[.agg #[.bool false, .int .i64 seq, .int .u64 bits, .slice A l.length cap], .int .i64 m] W (GivesN 0 W (0 :: (putW seq 2 ++ l))) := by
  have hq : 1 ≤ m ∧ 0 ≤ seq ∧ seq < m ∧ m ≤ 65536 ∧ l.length ≤ 64 := by
    simp only [mOk, slOk, Bool.and_eq_true, decide_eq_true_eq] at h hk
    obtain ⟨⟨a, b⟩, c⟩ := hk
    refine ⟨h.1, a, b, h.2, ?_⟩
    have := of_decide_eq_true c
    omega
  obtain ⟨qm, q0, q1, q2, q3⟩ := hq
  have hpl : (putW seq 2).length = 2 := by
    have e := putW_eq seq 2 (by omega) (by omega)
    simp at e
    rw [e, put_length]
  have hcp : ∀ w, Calls Try.prog 44 #[.int .u64 (IntKind.u64.wrap seq), .int .i64 2] w (Gives w (putW seq 2)) := by
    intro w
    rw [show IntKind.u64.wrap seq = seq by rw [IntKind.wrap_u64]; exact Int.emod_eq_of_lt q0 (by omega)]
    exact refPut_any seq 2 q0 (by omega) w
  have HCP := Lib.hid hcp
  have HK := Lib.hid hk
  have HPL := Lib.hid hpl
  have HLT := Lib.hid hl
  clear hk h hpl hl hcp
  obtain ⟨w2, hw2⟩ : ∃ w2, w2 = (W.alloc (.cells #[.bool false, .int .i64 seq, .int .u64 bits, .slice A l.length cap] 25)).alloc (.cells #[.bool false, .int .i64 seq, .int .u64 bits, .slice A l.length cap] 25) := ⟨_, rfl⟩
  have hb2 : Below W.heap.size W w2 := by rw [hw2]; exact below_alloc (below_alloc (Below.refl W.heap.size W) _) _
  have HB1 := Lib.hid hb2
  have HA := Lib.hid hA
  clear hb2 hA
  go_enter Try.func13, Try.ntmps13
  go_wp2_with fail
  refine (refRight_any false seq bits A l.length cap m HLT.out _).mono ?_
  rw [HK.out]
  rintro e w1 ⟨rfl, hw1⟩
  obtain rfl : w1 = w2 := by rw [hw1, hw2]
  have hd0 : w1.cell? ⟨W.heap.size, 0, none⟩ = some (.bool false) := by rw [hw1]; simp [go_sem]
  have hd1 : w1.cell? ⟨W.heap.size, 1, none⟩ = some (.int .i64 seq) := by rw [hw1]; simp [go_sem]
  have hd3 : w1.cell? ⟨W.heap.size, 3, none⟩ = some (.slice A l.length cap) := by rw [hw1]; simp [go_sem]
  have hsz : W.heap.size + 2 ≤ w1.heap.size := by rw [hw1]; simp
  have hq0 : W.heap.size < w1.heap.size := by omega
  have hq2 : ¬ W.heap.size = w1.heap.size := by omega
  have hq4 : ¬ w1.heap.size = W.heap.size := by omega
  clear hw1 hw2
  go_wp2_with fail
  go_region_held3 (fun w' => w'.cell? ⟨W.heap.size, 1, none⟩ = some (.int .i64 seq) ∧ w'.cell? ⟨W.heap.size, 3, none⟩ = some (.slice A l.length cap))
    (first | go_keep | exact ⟨hd4, hd5⟩)
    ((first
      | (go_at_call_of 44 (Value.int .u64 (IntKind.u64.wrap seq)); refine (HCP.out _).mono ?_; rintro e w2 ⟨v2, rfl, ho2, hb2⟩; obtain ⟨A2, c2, rfl, _, _, _⟩ := ho2.shape
         have hb3 : Below w1.heap.size w1 w2 := by first | exact below_next (Below.drew (below_alloc (Below.refl w1.heap.size w1) _)) hb2 | exact below_next (Below.drew (Below.refl w1.heap.size w1)) hb2
         have hd4 : w2.cell? ⟨W.heap.size, 1, none⟩ = some (.int .i64 seq) := by rw [(bcell hb3).1 _ _ hq0]; exact hd1
         have hd5 : w2.cell? ⟨W.heap.size, 3, none⟩ = some (.slice A l.length cap) := by rw [(bcell hb3).1 _ _ hq0]; exact hd3
         have hq6 : W.heap.size < w2.heap.size := Nat.lt_of_lt_of_le hq0 hb3.size)
      | (refine step_appB _ (by rfl) _ _ 23 (by rfl) 5 Try.underlying23 infoU8 w1 _ [0] (by rfl)
           (by first | exact (Own.drew (own_lit_at 5 w1 _ rfl (Nat.le_refl _) [0] #[.int .u8 0] rfl (by simp [maxLen]))).below hb2 | exact own_lit_at 5 w2 _ rfl hb3.size [0] #[.int .u8 0] rfl (by simp [maxLen]))
           (by first | exact hb3 | exact below_alloc hb3 _) A2 _ c2 (putW seq 2) (by rfl) rfl (by first | exact ho2.bytes | exact ho2.later (below_alloc (Below.refl _ _) _)) (by rw [HPL.out]; decide) ?_
         intro v3 w3 ho3 hb4
         have hd4 : w3.cell? ⟨W.heap.size, 1, none⟩ = some (.int .i64 seq) := by rw [(bcell hb4).1 _ _ hq0]; exact hd1
         have hd5 : w3.cell? ⟨W.heap.size, 3, none⟩ = some (.slice A l.length cap) := by rw [(bcell hb4).1 _ _ hq0]; exact hd3)
      | (refine step_appB _ (by rfl) _ _ 23 (by rfl) 5 Try.underlying23 infoU8 w1 _ ([0] ++ putW seq 2) (by rfl) ho3 hb4 A l.length cap l (by rfl) rfl (HA.out.later (below_next HB1.out hb4)) (by rw [List.length_append, HPL.out]; simp; omega) ?_; intro v4 w4 ho4 hb5
         have hd4 : w4.cell? ⟨W.heap.size, 1, none⟩ = some (.int .i64 seq) := by rw [(bcell hb5).1 _ _ hq0]; exact hd1
         have hd5 : w4.cell? ⟨W.heap.size, 3, none⟩ = some (.slice A l.length cap) := by rw [(bcell hb5).1 _ _ hq0]; exact hd3)
      | fail))
  all_goals go_wp2_with fail
  all_goals go_ret2
  all_goals exact ⟨_, rfl, by simpa using ho4.mono HB1.out.size, below_next HB1.out hb5⟩
set_option maxHeartbeats 4000000 in
theorem refPutT_any (seq bits : Int) (A : Option Addr) (cap : Nat) (l : List UInt8) (m : Int) (W : World) (hA : Bytes W W.heap.size A l) (hl : l.length ≤ maxLen) (h0 : 0 ≤ bits) (h1 : bits ≤ 18446744073709551615) (h : mOk m = true) (hk : slOk true seq bits l.length m = true) :
    Calls Try.prog 13 #[.agg #[.bool true, .int .i64 seq, .int .u64 bits, .slice A l.length cap], .int .i64 m] W (GivesN 0 W (1 :: (putW seq 2 ++ putW bits 8))) := by
  have hq : 1 ≤ m ∧ 0 ≤ seq ∧ seq < m ∧ m ≤ 65536 ∧ l.length ≤ 64 := by
    simp only [mOk, slOk, Bool.and_eq_true, decide_eq_true_eq] at h hk
    obtain ⟨⟨a, b⟩, c⟩ := hk
    refine ⟨h.1, a, b, h.2, ?_⟩
    have := of_decide_eq_true c
    rw [this]
    omega
  obtain ⟨qm, q0, q1, q2, q3⟩ := hq
  have hpl : (putW seq 2).length = 2 := by
    have e := putW_eq seq 2 (by omega) (by omega)
    simp at e
    rw [e, put_length]
  have hpb : (putW bits 8).length = 8 := by
    have e := putW_eq bits 8 (by omega) (by omega)
    simp at e
    rw [e, put_length]
  have hcp : ∀ w, Calls Try.prog 44 #[.int .u64 (IntKind.u64.wrap seq), .int .i64 2] w (Gives w (putW seq 2)) := by
    intro w
    rw [show IntKind.u64.wrap seq = seq by rw [IntKind.wrap_u64]; exact Int.emod_eq_of_lt q0 (by omega)]
    exact refPut_any seq 2 q0 (by omega) w
  have hcq : ∀ w, Calls Try.prog 44 #[.int .u64 bits, .int .i64 8] w (Gives w (putW bits 8)) := fun w => refPut_any bits 8 h0 h1 w
  have HCQ := Lib.hid hcq
  have HPB := Lib.hid hpb
  have HCP := Lib.hid hcp
  have HK := Lib.hid hk
  have HPL := Lib.hid hpl
  have HLT := Lib.hid hl
  clear hk h hpl hl hcp hcq hpb
  obtain ⟨w2, hw2⟩ : ∃ w2, w2 = (W.alloc (.cells #[.bool true, .int .i64 seq, .int .u64 bits, .slice A l.length cap] 25)).alloc (.cells #[.bool true, .int .i64 seq, .int .u64 bits, .slice A l.length cap] 25) := ⟨_, rfl⟩
  have hb2 : Below W.heap.size W w2 := by rw [hw2]; exact below_alloc (below_alloc (Below.refl W.heap.size W) _) _
  have HB1 := Lib.hid hb2
  have HA := Lib.hid hA
  clear hb2 hA
  go_enter Try.func13, Try.ntmps13
  go_wp2_with fail
  refine (refRight_any true seq bits A l.length cap m HLT.out _).mono ?_
  rw [HK.out]
  rintro e w1 ⟨rfl, hw1⟩
  obtain rfl : w1 = w2 := by rw [hw1, hw2]
  have hd0 : w1.cell? ⟨W.heap.size, 0, none⟩ = some (.bool true) := by rw [hw1]; simp [go_sem]
  have hd1 : w1.cell? ⟨W.heap.size, 1, none⟩ = some (.int .i64 seq) := by rw [hw1]; simp [go_sem]
  have hd3 : w1.cell? ⟨W.heap.size, 2, none⟩ = some (.int .u64 bits) := by rw [hw1]; simp [go_sem]
  have hsz : W.heap.size + 2 ≤ w1.heap.size := by rw [hw1]; simp
  have hq0 : W.heap.size < w1.heap.size := by omega
  have hq2 : ¬ W.heap.size = w1.heap.size := by omega
  have hq4 : ¬ w1.heap.size = W.heap.size := by omega
  clear hw1 hw2
  go_wp2_with fail
  go_region_held3 (fun w' => w'.cell? ⟨W.heap.size, 1, none⟩ = some (.int .i64 seq) ∧ w'.cell? ⟨W.heap.size, 2, none⟩ = some (.int .u64 bits))
    (first | go_keep | exact ⟨hd4, hd5⟩)
    ((first
      | (go_at_call_of 44 (Value.int .u64 (IntKind.u64.wrap seq)); refine (HCP.out _).mono ?_; rintro e w2 ⟨v2, rfl, ho2, hb2⟩; obtain ⟨A2, c2, rfl, _, _, _⟩ := ho2.shape
         have hb3 : Below w1.heap.size w1 w2 := by first | exact below_next (Below.drew (below_alloc (Below.refl w1.heap.size w1) _)) hb2 | exact below_next (Below.drew (Below.refl w1.heap.size w1)) hb2
         have hd4 : w2.cell? ⟨W.heap.size, 1, none⟩ = some (.int .i64 seq) := by rw [(bcell hb3).1 _ _ hq0]; exact hd1
         have hd5 : w2.cell? ⟨W.heap.size, 2, none⟩ = some (.int .u64 bits) := by rw [(bcell hb3).1 _ _ hq0]; exact hd3
         have hq6 : W.heap.size < w2.heap.size := Nat.lt_of_lt_of_le hq0 hb3.size)
      | (refine step_appB _ (by rfl) _ _ 23 (by rfl) 5 Try.underlying23 infoU8 w1 _ [1] (by rfl)
           (by first | exact (Own.drew (own_lit_at 5 w1 _ rfl (Nat.le_refl _) [1] #[.int .u8 1] rfl (by simp [maxLen]))).below hb2 | exact own_lit_at 5 w2 _ rfl hb3.size [1] #[.int .u8 1] rfl (by simp [maxLen]))
           (by first | exact hb3 | exact below_alloc hb3 _) A2 _ c2 (putW seq 2) (by rfl) rfl (by first | exact ho2.bytes | exact ho2.later (below_alloc (Below.refl _ _) _)) (by rw [HPL.out]; decide) ?_
         intro v3 w3 ho3 hb4
         have hd4 : w3.cell? ⟨W.heap.size, 1, none⟩ = some (.int .i64 seq) := by rw [(bcell hb4).1 _ _ hq0]; exact hd1
         have hd5 : w3.cell? ⟨W.heap.size, 2, none⟩ = some (.int .u64 bits) := by rw [(bcell hb4).1 _ _ hq0]; exact hd3)
      | (go_at_call_of 44 (Value.int .u64 bits); refine (HCQ.out _).mono ?_; rintro e w4 ⟨v4, rfl, ho4, hb5⟩; obtain ⟨A4, c4, rfl, _, _, _⟩ := ho4.shape
         have hb6 : Below w1.heap.size w1 w4 := below_next hb4 hb5
         have hd4 : w4.cell? ⟨W.heap.size, 1, none⟩ = some (.int .i64 seq) := by rw [(bcell hb6).1 _ _ hq0]; exact hd1
         have hd5 : w4.cell? ⟨W.heap.size, 2, none⟩ = some (.int .u64 bits) := by rw [(bcell hb6).1 _ _ hq0]; exact hd3)
      | (refine step_appB _ (by rfl) _ _ 23 (by rfl) 5 Try.underlying23 infoU8 w1 _ ([1] ++ putW seq 2) (by rfl) (ho3.below hb5) hb6 A4 _ c4 (putW bits 8) (by rfl) rfl ho4.bytes (by rw [List.length_append, HPL.out, HPB.out]; simp) ?_; intro v5 w5 ho5 hb7
         have hd4 : w5.cell? ⟨W.heap.size, 1, none⟩ = some (.int .i64 seq) := by rw [(bcell hb7).1 _ _ hq0]; exact hd1
         have hd5 : w5.cell? ⟨W.heap.size, 2, none⟩ = some (.int .u64 bits) := by rw [(bcell hb7).1 _ _ hq0]; exact hd3)
      | fail))
  all_goals go_wp2_with fail
  all_goals go_ret2
  all_goals exact ⟨_, rfl, by simpa using ho5.mono HB1.out.size, below_next HB1.out hb7⟩
/-- the document's Put -/
theorem refPut_any (ack : Bool) (seq bits : Int) (A : Option Addr) (cap : Nat) (l : List UInt8) (m : Int) (h0 : 0 ≤ bits) (h1 : bits ≤ 18446744073709551615) (W : World) (hA : Bytes W W.heap.size A l) (hl : l.length ≤ maxLen) :
    Calls Try.prog 13 #[.agg #[.bool ack, .int .i64 seq, .int .u64 bits, .slice A l.length cap], .int .i64 m] W (GivesN (slErr ack seq bits l.length m) W (slPut ack seq bits l m)) := by
  unfold slErr slPut
  cases h : mOk m with
  | false =>
    have H : m < 1 ∨ 65536 < m := by simp only [mOk, decide_eq_false_iff_not] at h; omega
    clear h
    rcases H with h | h
    · go_enter Try.func13, Try.ntmps13
      go_wp2_with fail
      go_ret2
      exact ⟨_, rfl, Own.nil _ _ _, below_alloc (Below.refl _ _) _⟩
    · have h' : ¬ m < 1 := by omega
      go_enter Try.func13, Try.ntmps13
      go_wp2_with fail
      go_ret2
      exact ⟨_, rfl, Own.nil _ _ _, below_alloc (Below.refl _ _) _⟩
  | true =>
    cases hk : slOk ack seq bits l.length m with
    | false =>
      have H : 1 ≤ m ∧ m ≤ 65536 := by simpa [mOk] using h
      obtain ⟨q0, q1⟩ := H
      have HK := Lib.hid hk; clear hk h
      go_enter Try.func13, Try.ntmps13
      go_wp2_with fail
      refine (refRight_any ack seq bits A l.length cap m hl _).mono ?_
      rw [HK.out]
      rintro e w1 ⟨rfl, rfl⟩
      go_wp2
      go_ret2
      exact ⟨_, rfl, Own.nil _ _ _, below_alloc (below_alloc (Below.refl _ _) _) _⟩
    | true =>
      cases ack with
      | true => exact refPutT_any seq bits A cap l m W hA hl h0 h1 h hk
      | false => exact refPutF_any seq bits A cap l m W hA hl h hk
end Go.Proofs.Ytonjdkankegdaaa.Slide
