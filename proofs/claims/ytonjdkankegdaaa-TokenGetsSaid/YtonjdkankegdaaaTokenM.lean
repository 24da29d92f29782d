
/- Layer 15 (token): the law on Get. -/
import Derived.Test.YtonjdkankegdaaaTokenKL
import Derived.Test.YtonjdkankegdaaaTokenL
namespace Go.Proofs.Ytonjdkankegdaaa.Token
open Go.RowKit Go.Proofs.Ytonjdkankegdaaa.Mem Go.Proofs.Ytonjdkankegdaaa.Oct Go.Proofs.Ytonjdkankegdaaa.Pkt


theorem gtD_le (l : List UInt8) : (gtD l).length ≤ l.length := by
  unfold gtD
  split
  · unfold rR rC rT
    have h1 := nr_le (hR (hd l)) (oC (hd l) l.tail) (nr (hC (hd l)) (oT (hd l) l.tail) (nr true (hB (hd l)) l.tail))
    have h2 := nr_le (hC (hd l)) (oT (hd l) l.tail) (nr true (hB (hd l)) l.tail)
    have h3 := nr_le true (hB (hd l)) l.tail
    have h4 : l.tail.length ≤ l.length := by simp
    omega
  · simp

set_option maxHeartbeats 4000000 in
/-- TokenGets -/
theorem TokenGets_any (A : Option Addr) (cap : Nat) (l : List UInt8) (W : World) (hA : Bytes W W.heap.size A l) (hc : l.length ≤ cap) (hcm : cap ≤ maxLen) (hl : l.length ≤ 140737488355000) :
    Calls Try.prog 8 #[.slice A l.length cap] W fun e W' => e = .returned (.bool true) ∧ Below W.heap.size W W' := by
  have c1 := fun w h => Get_any A cap l w h hc hcm (by omega)
  have c2 := fun w h => refGetT_any A cap l w h hc hl
  have hdl := gtD_le l
  unfold GivesTk at c1 c2
  generalize gtK l = k at c1 c2
  generalize gtT l = t at c1 c2
  generalize gtC l = c at c1 c2
  generalize gtR l = r at c1 c2
  generalize gtD l = d at c1 c2 hdl
  generalize gtE l = er at c1 c2
  have C1 := Lib.hid c1
  have C2 := Lib.hid c2
  have HDL := Lib.hid (show d.length ≤ maxLen by unfold maxLen; omega)
  clear c1 c2 hdl hc hcm hl
  go_enter Try.func8, Try.ntmps8
  go_wp2_with fail
  refine (C1.out _ hA).mono ?_
  rintro e w1 ⟨v1, rfl, ht1, hb1⟩
  obtain ⟨A1, k1, rfl, _, _, hx1⟩ := ht1
  have hbx := below_alloc (Below.refl w1.heap.size w1) (.cells #[.int .i64 k, .int .u64 t, .int .u64 c, .int .u64 r, .slice A1 d.length k1] 36)
  have hb01 := below_next hb1 hbx
  go_wp2_with fail
  refine (C2.out _ (hA.later hb01)).mono ?_
  rintro e w2 ⟨v2, rfl, ht2, hb2⟩
  obtain ⟨A2, k2, rfl, _, _, hx2⟩ := ht2
  have hd0 : w2.cell? ⟨w1.heap.size, 0, none⟩ = some (.int .i64 k) := by rw [(bcell hb2).1 _ _ (by simp)]; simp [go_sem]
  have hd1 : w2.cell? ⟨w1.heap.size, 1, none⟩ = some (.int .u64 t) := by rw [(bcell hb2).1 _ _ (by simp)]; simp [go_sem]
  have hd2 : w2.cell? ⟨w1.heap.size, 2, none⟩ = some (.int .u64 c) := by rw [(bcell hb2).1 _ _ (by simp)]; simp [go_sem]
  have hd3 : w2.cell? ⟨w1.heap.size, 3, none⟩ = some (.int .u64 r) := by rw [(bcell hb2).1 _ _ (by simp)]; simp [go_sem]
  have hd4 : w2.cell? ⟨w1.heap.size, 4, none⟩ = some (.slice A1 d.length k1) := by rw [(bcell hb2).1 _ _ (by simp)]; simp [go_sem]
  have hq0 : w1.heap.size < w2.heap.size := by have := hb2.size; simp at this; omega
  have hq1 : ¬ w1.heap.size = w2.heap.size := by omega
  have hq2 : ¬ w2.heap.size = w1.heap.size := by omega
  have hby := below_alloc (Below.refl w2.heap.size w2) (.cells #[.int .i64 k, .int .u64 t, .int .u64 c, .int .u64 r, .slice A2 d.length k2] 36)
  have HX1 := Lib.hid (((hx1.later hbx).later hb2).later hby)
  have HX2 := Lib.hid (hx2.later hby)
  have HB := Lib.hid (below_next (below_next hb01 hb2) hby)
  clear hbx hb1 hb01 hb2 hby hx1 hx2
  have hsame := fun w h1 h2 => refSameT_any k t c r k t c r A1 A2 k1 k2 d d w h1 h2 HDL.out HDL.out
  rw [tkSame_self] at hsame
  have HS := Lib.hid hsame
  clear hsame
  go_wp2_with (go_at_call 19; refine (num_any _ _).mono ?_; rintro e w' ⟨rfl, rfl⟩)
  refine (HS.out _ HX1.out HX2.out).mono ?_
  rintro e w3 ⟨rfl, hb3⟩
  go_wp2_with fail
  refine (live_any _).mono ?_
  rintro e w4 ⟨rfl, hb4⟩
  go_wp2
  go_ret
  exact ⟨rfl, below_next (below_next HB.out hb3) hb4⟩
end Go.Proofs.Ytonjdkankegdaaa.Token
