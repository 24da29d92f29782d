
/- Layer 13 (probe): the document's Put. -/
import Derived.Test.YtonjdkankegdaaaPktA
import Derived.Test.YtonjdkankegdaaaProbe
namespace Go.Proofs.Ytonjdkankegdaaa.Probe
open Go.RowKit Go.Proofs.Ytonjdkankegdaaa.Mem Go.Proofs.Ytonjdkankegdaaa.Oct Go.Proofs.Ytonjdkankegdaaa.Pkt

set_option maxHeartbeats 4000000 in
theorem refPut_any (k lb : Int) (A : Option Addr) (cap : Nat) (l : List UInt8) (W : World) (hA : Bytes W W.heap.size A l) (hl : l.length ≤ maxLen) :
    Calls Try.prog 22 #[.agg #[.int .i64 k, .int .i64 lb, .slice A l.length cap]] W (GivesN (prErr k lb l.length) W (prPut k lb l)) := by
  by_cases h : prOk k lb l.length = true
  · have hsm := prOk_small h
    have e1 : prErr k lb l.length = 0 := if_pos h
    have e2 : prPut k lb l = prHead k lb :: l := if_pos h
    rw [e1, e2]
    have H := Lib.hid h
    clear e1 e2 h
    generalize hc : prHead k lb = c
    have HC := Lib.hid hc
    clear hc
    obtain ⟨w2, hw2⟩ : ∃ w2, w2 = (W.alloc (.cells #[.int .i64 k, .int .i64 lb, .slice A l.length cap] 41)).alloc (.cells #[.int .i64 k, .int .i64 lb, .slice A l.length cap] 41) := ⟨_, rfl⟩
    have hb2 : Below W.heap.size W w2 := by rw [hw2]; exact below_alloc (below_alloc (Below.refl W.heap.size W) _) _
    have HB2 := Lib.hid hb2
    have hA2 := Lib.hid (hA.below hb2 (Nat.le_refl _))
    have HLT := Lib.hid hl
    clear hb2 hA hl
    go_enter Try.func22, Try.ntmps22
    go_wp2_with fail
    refine (refRight_any k lb A l.length cap HLT.out _).mono ?_
    rw [H.out]
    rintro e w1 ⟨rfl, hw1⟩
    obtain rfl : w1 = w2 := by rw [hw1, hw2]
    have hd0 : w1.cell? ⟨W.heap.size, 0, none⟩ = some (.int .i64 k) := by rw [hw1]; simp [go_sem]
    have hd1 : w1.cell? ⟨W.heap.size, 1, none⟩ = some (.int .i64 lb) := by rw [hw1]; simp [go_sem]
    have hd2 : w1.cell? ⟨W.heap.size, 2, none⟩ = some (.slice A l.length cap) := by rw [hw1]; simp [go_sem]
    have hsz : W.heap.size + 2 ≤ w1.heap.size := by rw [hw1]; simp
    have hq0 : W.heap.size < w1.heap.size := by omega
    have hq1 : W.heap.size < w1.heap.size + 1 := by omega
    have hq2 : ¬ W.heap.size = w1.heap.size := by omega
    have hq3 : ¬ W.heap.size = w1.heap.size + 1 := by omega
    have hq4 : ¬ w1.heap.size = W.heap.size := by omega
    have hq5 : ¬ w1.heap.size + 1 = W.heap.size := by omega
    clear hw1 hw2
    go_wp2_with fail
    go_region_law (first
      | (go_simp; go_at_call 50; refine (refHead_any k lb A l.length cap H.out _).mono ?_; rw [HC.out]; rintro e w3 ⟨rfl, rfl⟩)
      | (refine step_app _ rfl _ _ 23 rfl 5 Try.underlying23 infoU8 W.heap.size _ [c] rfl (own_lit_at 5 _ _ (by simp) (by simp; omega) [c] #[.int .u8 (c.toNat : Int)] rfl (by simp [maxLen])) _ A l.length cap l rfl rfl (by first | exact hA2.out.below (below_alloc (below_alloc (Below.refl _ _) _) _) HB2.out.size | exact hA2.out.below (Below.drew (below_alloc (below_alloc (Below.refl _ _) _) _)) HB2.out.size | exact hA2.out.below (below_alloc (below_alloc (Below.drew (Below.refl _ _)) _) _) HB2.out.size) (by simp; omega) (by simp; omega) ?_; intro v' w' ho' hg))
    all_goals go_wp2_with fail
    all_goals go_ret2
    all_goals exact ⟨_, rfl, ho', Below.grown (by first | exact below_alloc (below_alloc HB2.out _) _ | exact Below.drew (below_alloc (below_alloc HB2.out _) _) | exact below_alloc (below_alloc (Below.drew HB2.out) _) _) hg (by simp; omega) (by intro k hk; cases hk; show W.heap.size ≤ w1.heap.size + 1; omega)⟩
  · have h := Bool.eq_false_iff.2 h
    have e1 : prErr k lb l.length = 130 := by unfold prErr; rw [h]; rfl
    have e2 : prPut k lb l = [] := by unfold prPut; rw [h]; rfl
    rw [e1, e2]
    have H := Lib.hid h
    clear e1 e2 h
    go_enter Try.func22, Try.ntmps22
    go_wp2_with fail
    refine (refRight_any k lb A l.length cap hl _).mono ?_
    rw [H.out]
    rintro e w1 ⟨rfl, rfl⟩
    go_wp2
    go_ret2
    exact ⟨_, rfl, Own.nil _ _ _, below_alloc (below_alloc (Below.refl _ _) _) _⟩
end Go.Proofs.Ytonjdkankegdaaa.Probe
