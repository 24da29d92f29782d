
/- Layer 15 (token): the page's example, and the law on Put. -/
import Derived.Test.YtonjdkankegdaaaTokenQ
namespace Go.Proofs.Ytonjdkankegdaaa.Token
open Go.RowKit Go.Proofs.Ytonjdkankegdaaa.Mem Go.Proofs.Ytonjdkankegdaaa.Oct Go.Proofs.Ytonjdkankegdaaa.Pkt

theorem num_any (n : Int) (W : World) :
    Calls Try.prog 19 #[.int .i64 n] W fun e W' => e = .returned (.int .i64 n) ∧ W = W' := by
  go_enter Try.func19, Try.ntmps19
  go_wp2
  go_ret
  exact ⟨rfl, rfl⟩

set_option maxHeartbeats 2000000 in
set_option maxRecDepth 20000 in
theorem live_any (W : World) :
    Calls Try.prog 20 #[] W fun e W' => e = .returned (.bool true) ∧ Below W.heap.size W W' := by
  have P1 := Lib.hid (show tkPut 0 1 0 0 [] = [0, 0, 0, 0, 0, 0, 0, 0, 1] by decide)
  have E1 := Lib.hid (show tkErr 0 0 0 ([] : List UInt8).length = 0 by decide)
  go_enter Try.func20, Try.ntmps20
  go_wp2_with fail
  refine (Put_any 0 1 0 0 none 0 [] (by decide) (by decide) (by decide) _ (Bytes.nil _ _ _) (Nat.le_refl _) (by simp [maxLen])).mono ?_
  rw [P1.out, E1.out]
  rintro e w1 ⟨v1, rfl, ho1, hb1⟩
  obtain ⟨A1, c1, rfl, _, _, _⟩ := ho1.shape
  have hbx := below_alloc (Below.refl w1.heap.size w1) (.cells #[.int .u8 0, .int .u8 0, .int .u8 0, .int .u8 0, .int .u8 0, .int .u8 0, .int .u8 0, .int .u8 0, .int .u8 1] 5)
  go_wp2_with (go_at_call 19; refine (num_any _ _).mono ?_; rintro e w' ⟨rfl, rfl⟩)
  refine (refSame_any A1 (some ⟨w1.heap.size, 0, none⟩) c1 9 [0, 0, 0, 0, 0, 0, 0, 0, 1] [0, 0, 0, 0, 0, 0, 0, 0, 1] _ _ _ (ho1.later hbx) (lit_bytes_at 5 _ _ (by simp) [0, 0, 0, 0, 0, 0, 0, 0, 1] _ rfl (by simp [maxLen])) (by simp [maxLen]) (by simp [maxLen])).mono ?_
  rintro e w3 ⟨rfl, hd⟩
  have hb4 := below_next (below_next hb1 hbx) (hd.below _)
  go_wp2
  go_ret
  exact ⟨rfl, hb4⟩

theorem tkPut_le (k t c r : Int) (l : List UInt8) : (tkPut k t c r l).length ≤ 200 := by
  unfold tkPut
  split
  · rename_i h
    have := tkOk_len h
    unfold tkHead
    have h1 := put8_length t
    have h2 := put8_length c
    have h3 := put8_length r
    split <;> split <;> simp [h1, h2, h3] <;> omega
  · simp

set_option maxHeartbeats 2000000 in
/-- TokenPuts -/
theorem TokenPuts_any (k t c r : Int) (A : Option Addr) (cap : Nat) (l : List UInt8) (ht : 0 ≤ t ∧ t ≤ 18446744073709551615) (hc : 0 ≤ c ∧ c ≤ 18446744073709551615) (hr : 0 ≤ r ∧ r ≤ 18446744073709551615) (W : World) (hA : Bytes W W.heap.size A l) (hcl : l.length ≤ cap) (hm : cap ≤ maxLen) :
    Calls Try.prog 4 #[.agg #[.int .i64 k, .int .u64 t, .int .u64 c, .int .u64 r, .slice A l.length cap]] W fun e W' => e = .returned (.bool true) ∧ Below W.heap.size W W' := by
  have HLP := Lib.hid (tkPut_le k t c r l)
  have C1 := Lib.hid (fun w h => Put_any k t c r A cap l ht.1 hc.1 hr.1 w h hcl hm)
  have C2 := Lib.hid (fun w h => refPutT_any k t c r A cap l ht hc hr w h)
  clear ht hc hr hcl hm
  go_enter Try.func4, Try.ntmps4
  go_wp2_with fail
  refine (C1.out _ (hA.later (below_alloc (Below.refl _ _) _))).mono ?_
  rintro e w1 ⟨v1, rfl, ho1, hb⟩
  obtain ⟨hcl, hf⟩ := bcell hb
  have hd0 : w1.cell? ⟨W.heap.size, 0, none⟩ = some (.int .i64 k) := by rw [hcl _ _ (by simp)]; simp [go_sem]
  have hd1 : w1.cell? ⟨W.heap.size, 1, none⟩ = some (.int .u64 t) := by rw [hcl _ _ (by simp)]; simp [go_sem]
  have hd2 : w1.cell? ⟨W.heap.size, 2, none⟩ = some (.int .u64 c) := by rw [hcl _ _ (by simp)]; simp [go_sem]
  have hd3 : w1.cell? ⟨W.heap.size, 3, none⟩ = some (.int .u64 r) := by rw [hcl _ _ (by simp)]; simp [go_sem]
  have hd4 : w1.cell? ⟨W.heap.size, 4, none⟩ = some (.slice A l.length cap) := by rw [hcl _ _ (by simp)]; simp [go_sem]
  have hb1 := below_next (below_alloc (Below.refl W.heap.size W) _) hb
  obtain ⟨A1, c1, rfl, _, _, _⟩ := ho1.shape
  clear hcl hf hb
  go_wp2_with fail
  refine (C2.out _ (hA.later hb1)).mono ?_
  rintro e w2 ⟨v2, rfl, ho2, hb2⟩
  obtain ⟨A2, c2, rfl, _, _, _⟩ := ho2.shape
  go_wp2_with (go_at_call 19; refine (num_any _ _).mono ?_; rintro e w' ⟨rfl, rfl⟩)
  refine (refSame_any A1 A2 c1 c2 _ _ _ _ _ (ho1.later hb2) ho2.bytes (by have := HLP.out; unfold maxLen; omega) (by have := HLP.out; unfold maxLen; omega)).mono ?_
  rintro e w3 ⟨rfl, hd3⟩
  have hb3 := hd3.below w2.heap.size
  have hb := below_next (below_next hb1 hb2) hb3
  go_wp2_with fail
  refine (live_any _).mono ?_
  rintro e w4 ⟨rfl, hb4⟩
  go_wp2
  go_ret
  exact ⟨rfl, below_next hb hb4⟩
end Go.Proofs.Ytonjdkankegdaaa.Token
