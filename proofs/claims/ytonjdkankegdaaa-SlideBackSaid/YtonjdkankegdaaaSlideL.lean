
/- Layer 14 (slide): the page's examples, and the law on Put. -/
import Derived.Test.YtonjdkankegdaaaSlideR
import Derived.Lib.SlBytesConst
namespace Go.Proofs.Ytonjdkankegdaaa.Slide
open Go.RowKit Go.Proofs.Ytonjdkankegdaaa.Mem Go.Proofs.Ytonjdkankegdaaa.Oct Go.Proofs.Ytonjdkankegdaaa.Pkt

theorem num_any (n : Int) (W : World) :
    Calls Try.prog 14 #[.int .i64 n] W fun e W' => e = .returned (.int .i64 n) ∧ W = W' := by
  go_enter Try.func14, Try.ntmps14
  go_wp2
  go_ret
  exact ⟨rfl, rfl⟩

theorem lit_bytes_m (E : TypeId) (w : World) (l : List UInt8) (cs : Array Value) (hcs : cs = (l.map bv).toArray) (m : Nat × Nat) : Bytes (w.alloc (.cells cs E m)) (w.alloc (.cells cs E m)).heap.size (some ⟨w.heap.size, 0, none⟩) l := by
  subst hcs
  intro hp
  refine ⟨w.heap.size, 0, rfl, by simp, fun i hi => ?_⟩
  rw [Nat.zero_add, cell_of_row _ w.heap.size i _ E m (heap_alloc_new w _)]
  simp [bv, byteAt, List.getD, hi]

set_option maxHeartbeats 2000000 in
set_option maxRecDepth 20000 in
theorem live_any (W : World) :
    Calls Try.prog 16 #[] W fun e W' => e = .returned (.bool true) ∧ Below W.heap.size W W' := by
  have P1 := Lib.hid (show slPut false 258 0 [97] 300 = [0, 1, 2, 97] by decide)
  have E1 := Lib.hid (show slErr false 258 0 ([97] : List UInt8).length 300 = 0 by decide)
  have E2 := Lib.hid (show slErr false 258 0 ([97] : List UInt8).length 258 = 130 by decide)
  have kc := fun (w : World) (C : Array Value) (n c : Nat) => Lib.run_convert_bytes_const (P := Try.prog) w 23 5 C n c Try.underlying23 Try.underlying5
  have hB1 : Bytes (W.alloc (.cells #[.int .u8 97] 5 (1, 2))) (W.heap.size + 1) (some ⟨W.heap.size, 0, none⟩) [97] := by
    have := lit_bytes_m 5 W [97] #[.int .u8 97] rfl (1, 2)
    simpa using this
  go_enter Try.func16, Try.ntmps16
  go_wp2_with fail
  refine (Put_any false 258 0 (some ⟨W.heap.size, 0, none⟩) 1 [97] 300 (by decide) _ ((hB1.below (below_alloc (Below.refl _ _) _) (by simp)).more (by simp)) (by simp) (by simp [maxLen])).mono ?_
  rw [P1.out, E1.out]
  rintro e w1 ⟨v1, rfl, ho1, hb⟩
  have hb1 := below_next (below_alloc (below_alloc (Below.refl W.heap.size W) _) _) hb
  have O1 := Lib.hid ho1
  obtain ⟨A1, c1, rfl, _, _, _⟩ := ho1.shape
  obtain ⟨hcl, hf⟩ := bcell hb
  have hd0 : w1.cell? ⟨W.heap.size + 1, 0, none⟩ = some (.bool false) := by rw [hcl _ _ (by simp)]; simp [go_sem]
  have hd1 : w1.cell? ⟨W.heap.size + 1, 1, none⟩ = some (.int .i64 258) := by rw [hcl _ _ (by simp)]; simp [go_sem]
  have hd2 : w1.cell? ⟨W.heap.size + 1, 2, none⟩ = some (.int .u64 0) := by rw [hcl _ _ (by simp)]; simp [go_sem]
  have hd3 : w1.cell? ⟨W.heap.size + 1, 3, none⟩ = some (.slice (some ⟨W.heap.size, 0, none⟩) 1 1) := by rw [hcl _ _ (by simp)]; simp [go_sem]
  have hB2 := ((hB1.below (below_alloc (Below.refl _ _) _) (by simp)).more (by simp)).later hb
  clear ho1 hb hcl hf
  go_wp2_with fail
  refine (Put_any false 258 0 (some ⟨W.heap.size, 0, none⟩) 1 [97] 258 (by decide) _ hB2 (by simp) (by simp [maxLen])).mono ?_
  rw [E2.out]
  rintro e w2 ⟨v2, rfl, ht2, hb⟩
  have hb2 := below_next hb1 hb
  have O2 := Lib.hid (O1.out.later hb)
  clear hb ht2
  have hb3 := below_alloc hb2 (.cells #[.int .u8 0, .int .u8 1, .int .u8 2, .int .u8 97] 5)
  go_wp2_with (go_at_call 14; refine (num_any _ _).mono ?_; rintro e w' ⟨rfl, rfl⟩)
  refine (refSame_any A1 (some ⟨w2.heap.size, 0, none⟩) c1 4 [0, 1, 2, 97] [0, 1, 2, 97] _ _ _ (O2.out.later (below_alloc (Below.refl _ _) _)) (lit_bytes_at 5 _ _ (by simp) [0, 1, 2, 97] _ rfl (by simp [maxLen])) (by simp [maxLen]) (by simp [maxLen])).mono ?_
  rintro e w3 ⟨rfl, hd⟩
  have hb4 := hb3.trans (hd.below W.heap.size)
  clear hd
  go_wp2_with (go_at_call 14; refine (num_any _ _).mono ?_; rintro e w' ⟨rfl, rfl⟩)
  go_ret
  exact ⟨rfl, hb4⟩

theorem slPut_le (ack : Bool) (seq bits : Int) (l : List UInt8) (m : Int) : (slPut ack seq bits l m).length ≤ 70 := by
  have hw : ∀ n : Int, ∀ k : Nat, k ≤ 8 → (putW n k).length ≤ k := by
    intro n k hk
    unfold putW
    split
    · rw [put_length]; omega
    · simp
  unfold slPut
  split
  · split
    · rename_i h
      have h2 := hw seq 2 (by omega)
      have h8 := hw bits 8 (by omega)
      simp only [slOk, Bool.and_eq_true] at h
      split
      · simp; simp at h2 h8; omega
      · rename_i hn
        rw [if_neg hn] at h
        have := of_decide_eq_true h.2
        simp; simp at h2; omega
    · simp
  · simp

/-- SlidePuts -/
theorem SlidePuts_any (ack : Bool) (seq bits : Int) (A : Option Addr) (cap : Nat) (l : List UInt8) (m : Int) (h0 : 0 ≤ bits) (h1 : bits ≤ 18446744073709551615) (W : World) (hA : Bytes W W.heap.size A l) (hc : l.length ≤ cap) (hm : cap ≤ maxLen) :
    Calls Try.prog 3 #[.agg #[.bool ack, .int .i64 seq, .int .u64 bits, .slice A l.length cap], .int .i64 m] W fun e W' => e = .returned (.bool true) ∧ Below W.heap.size W W' := by
  have HLP := Lib.hid (slPut_le ack seq bits l m)
  have HC := Lib.hid hc
  have HM := Lib.hid hm
  have H1 := Lib.hid h1
  clear hc hm h1
  go_enter Try.func3, Try.ntmps3
  go_wp2_with fail
  refine (Put_any ack seq bits A cap l m h0 _ (hA.later (below_alloc (Below.refl _ _) _)) HC.out HM.out).mono ?_
  rintro e w1 ⟨v1, rfl, ho1, hb⟩
  obtain ⟨hcl, hf⟩ := bcell hb
  have hd0 : w1.cell? ⟨W.heap.size, 0, none⟩ = some (.bool ack) := by rw [hcl _ _ (by simp)]; simp [go_sem]
  have hd1 : w1.cell? ⟨W.heap.size, 1, none⟩ = some (.int .i64 seq) := by rw [hcl _ _ (by simp)]; simp [go_sem]
  have hd2 : w1.cell? ⟨W.heap.size, 2, none⟩ = some (.int .u64 bits) := by rw [hcl _ _ (by simp)]; simp [go_sem]
  have hd3 : w1.cell? ⟨W.heap.size, 3, none⟩ = some (.slice A l.length cap) := by rw [hcl _ _ (by simp)]; simp [go_sem]
  have hb1 := below_next (below_alloc (Below.refl W.heap.size W) _) hb
  obtain ⟨A1, c1, rfl, _, _, _⟩ := ho1.shape
  clear hcl hf hb
  go_wp2_with fail
  refine (refPut_any ack seq bits A cap l m h0 H1.out _ (hA.later hb1) (Nat.le_trans HC.out HM.out)).mono ?_
  rintro e w2 ⟨v2, rfl, ho2, hb2⟩
  obtain ⟨A2, c2, rfl, _, _, _⟩ := ho2.shape
  go_wp2_with (go_at_call 14; refine (num_any _ _).mono ?_; rintro e w' ⟨rfl, rfl⟩)
  refine (refSame_any A1 A2 c1 c2 _ _ _ _ _ (ho1.later hb2) ho2.bytes (by have := HLP.out; unfold maxLen; omega) (by have := HLP.out; unfold maxLen; omega)).mono ?_
  rintro e w3 ⟨rfl, hd3⟩
  have hb3 := hd3.below w2.heap.size
  have hb := below_next (below_next hb1 hb2) hb3
  go_wp2_with fail
  refine (live_any _).mono ?_
  rintro e w4 ⟨rfl, hb4⟩
  go_wp2
  go_ret
  exact ⟨rfl, below_next hb hb4⟩
end Go.Proofs.Ytonjdkankegdaaa.Slide
