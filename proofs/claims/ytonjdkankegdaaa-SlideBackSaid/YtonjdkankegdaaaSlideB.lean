
/- Layer 14 (slide): what was put is got, and back: the plain law. -/
import Derived.Test.YtonjdkankegdaaaSlideH
import Derived.Test.YtonjdkankegdaaaPktC
namespace Go.Proofs.Ytonjdkankegdaaa.Slide
open Go.Proofs.Ytonjdkankegdaaa.Oct Go.Proofs.Ytonjdkankegdaaa.Pkt

theorem two (n : Nat) : ∃ p q, put n 2 = [p, q] := ⟨_, _, rfl⟩
theorem seq_two (x m : Int) (h0 : 0 ≤ x) (h1 : x < m) (hm : mOk m = true) : ∃ p q, putW x 2 = [p, q] ∧ ((num [p, q] : Nat) : Int) = x := by
  unfold mOk at hm
  have hm := of_decide_eq_true hm
  obtain ⟨p, q, h⟩ := two x.toNat
  have hp := putW_eq x 2 (by omega) (by omega)
  obtain ⟨hn, _⟩ := numW_of_put x h0 2 (by omega) (by omega)
  refine ⟨p, q, ?_, ?_⟩
  · rw [← h]; exact hp
  · have hp' : putW x ((2 : Nat) : Int) = [p, q] := by rw [← h]; exact hp
    rw [hp', numW_le _ (by simp)] at hn
    rw [hn]
    exact Int.emod_eq_of_lt h0 (by simp; omega)

theorem slErr_zero {a : Bool} {x y : Int} {n : Nat} {m : Int} (h : slErr a x y n m = 0) : mOk m = true ∧ slOk a x y n m = true := by
  unfold slErr at h
  cases h1 : mOk m <;> cases h2 : slOk a x y n m <;> rw [h1, h2] at h <;> simp at h ⊢
theorem gvE_zero {b : List UInt8} {m : Int} (h : gvE b m = 0) : mOk m = true ∧ gOkS b m = true := by
  unfold gvE at h
  cases h1 : mOk m <;> cases h2 : gOkS b m <;> rw [h1, h2] at h <;> simp at h ⊢

theorem put_got (a : Bool) (x y : Int) (l : List UInt8) (m : Int) (hy0 : 0 ≤ y) (hy1 : y ≤ 18446744073709551615) (h : slErr a x y l.length m = 0) :
    gvE (slPut a x y l m) m = 0 ∧ gvA (slPut a x y l m) m = a ∧ gvS (slPut a x y l m) m = x ∧ gvB (slPut a x y l m) m = y ∧ gvD (slPut a x y l m) m = l := by
  obtain ⟨hm, hs⟩ := slErr_zero h
  have hs' := hs
  unfold slOk at hs'
  simp only [Bool.and_eq_true] at hs'
  have hx := of_decide_eq_true hs'.1
  obtain ⟨p, q, hpq, hnum⟩ := seq_two x m hx.1 hx.2 hm
  unfold slPut
  rw [if_pos hm, if_pos hs, hpq]
  cases a
  · have hd := of_decide_eq_true hs'.2
    obtain ⟨hd1, hd2⟩ := hd
    subst hd1
    have hg : gOkS (0 :: ([p, q] ++ l)) m = true := by
      unfold gOkS
      rw [hm]
      simp only [List.cons_append, List.nil_append, rO, rA, rS, rB, rD, hnum]
      simpa using hs
    unfold gvE gvA gvS gvB gvD
    simp only [hm, Bool.false_eq_true, if_false, if_true, hg]
    simp only [List.cons_append, List.nil_append, rA, rS, rB, rD, hnum]
    simp
  · have hd := of_decide_eq_true hs'.2
    have hl : l = [] := List.length_eq_zero_iff.mp hd
    subst hl
    obtain ⟨hn8, hl8⟩ := numW_of_put y hy0 8 (by omega) (by omega)
    have hy : numW (putW y 8) = y := hn8.trans (Int.emod_eq_of_lt hy0 (by simp; omega))
    have hl8' : (putW y 8).length = 8 := hl8
    have hg : gOkS (1 :: ([p, q] ++ putW y 8)) m = true := by
      unfold gOkS
      rw [hm]
      simp only [List.cons_append, List.nil_append, rO, rA, rS, rB, rD, hnum, hy, hl8']
      simpa using hs
    unfold gvE gvA gvS gvB gvD
    simp only [hm, if_true, hg]
    simp only [List.cons_append, List.nil_append, rA, rS, rB, rD, hnum, hy]
    simp

theorem got_put (b : List UInt8) (m : Int) (h : gvE b m = 0) :
    slErr (gvA b m) (gvS b m) (gvB b m) (gvD b m).length m = 0 ∧ slPut (gvA b m) (gvS b m) (gvB b m) (gvD b m) m = b := by
  obtain ⟨hm, hg⟩ := gvE_zero h
  have hg' := hg
  unfold gOkS at hg'
  simp only [Bool.and_eq_true] at hg'
  obtain ⟨_, ho, hs⟩ := hg'
  unfold gvA gvS gvB gvD
  rw [hg]
  simp only [Bool.true_and, if_true]
  refine ⟨by unfold slErr; rw [hm, hs]; rfl, ?_⟩
  unfold slPut
  rw [if_pos hm, if_pos hs]
  match b, ho with
  | c :: p :: q :: r, ho =>
    have h2 : putW ((num [p, q] : Nat) : Int) 2 = [p, q] := by
      have := putW_of_num [p, q] 2 rfl (by omega) (by omega)
      rw [numW_le _ (by simp)] at this
      exact this
    simp only [rO, Bool.or_eq_true, Bool.and_eq_true, beq_iff_eq] at ho
    simp only [rA, rS, rB, rD, h2]
    rcases ho with rfl | ⟨rfl, h8⟩
    · simp
    · have := putW_of_num r 8 h8 (by omega) (by omega)
      simpa using this
end Go.Proofs.Ytonjdkankegdaaa.Slide
