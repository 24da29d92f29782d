
/- Layer 14 (slide): the functions' walks. -/
import Derived.Test.YtonjdkankegdaaaPktA
import Derived.Test.YtonjdkankegdaaaOctD
namespace Go.Proofs.Ytonjdkankegdaaa.Slide
open Go.RowKit Go.Proofs.Ytonjdkankegdaaa.Mem Go.Proofs.Ytonjdkankegdaaa.Oct Go.Proofs.Ytonjdkankegdaaa.Pkt

def slOk (ack : Bool) (seq bits : Int) (n : Nat) (m : Int) : Bool :=
  decide (0 ≤ seq ∧ seq < m) && (if ack = true then decide (n = 0) else decide (bits = 0 ∧ n ≤ 64))
def mOk (m : Int) : Bool := decide (1 ≤ m ∧ m ≤ 65536)
def slErr (ack : Bool) (seq bits : Int) (n : Nat) (m : Int) : Int := if mOk m = true then (if slOk ack seq bits n m = true then 0 else 130) else 1
def slPut (ack : Bool) (seq bits : Int) (l : List UInt8) (m : Int) : List UInt8 :=
  if mOk m = true then (if slOk ack seq bits l.length m = true then (if ack = true then 1 :: (putW seq 2 ++ putW bits 8) else 0 :: (putW seq 2 ++ l)) else []) else []

theorem modulus_any (m : Int) (W : World) :
    Calls Try.prog 39 #[.int .i64 m] W fun e W' => e = .returned (.bool (mOk m)) ∧ W = W' := by
  go_enter Try.func39, Try.ntmps39
  go_wp2
  all_goals (go_ret; refine ⟨ret_bool ?_, rfl⟩; simp_all [mOk] <;> omega)

set_option maxHeartbeats 2000000 in
theorem right_any (ack : Bool) (seq bits : Int) (A : Option Addr) (n cap : Nat) (m : Int) (hn : n ≤ maxLen) (W : World) :
    Calls Try.prog 40 #[.agg #[.bool ack, .int .i64 seq, .int .u64 bits, .slice A n cap], .int .i64 m] W fun e W' => e = .returned (.bool (slOk ack seq bits n m)) ∧ W' = W.alloc (.cells #[.bool ack, .int .i64 seq, .int .u64 bits, .slice A n cap] 25) := by
  unfold maxLen at hn
  cases ack
  all_goals (
    go_enter Try.func40, Try.ntmps40
    go_wp2
    all_goals (go_ret; refine ⟨ret_bool ?_, by first | rfl | simp_all⟩; simp_all [slOk] <;> first | omega | (rw [Bool.eq_iff_iff]; simp; done) | (rw [Bool.eq_iff_iff]; simp; omega)))

set_option maxHeartbeats 2000000 in
theorem refRight_any (ack : Bool) (seq bits : Int) (A : Option Addr) (n cap : Nat) (m : Int) (hn : n ≤ maxLen) (W : World) :
    Calls Try.prog 43 #[.agg #[.bool ack, .int .i64 seq, .int .u64 bits, .slice A n cap], .int .i64 m] W fun e W' => e = .returned (.bool (slOk ack seq bits n m)) ∧ W' = W.alloc (.cells #[.bool ack, .int .i64 seq, .int .u64 bits, .slice A n cap] 25) := by
  unfold maxLen at hn
  cases ack
  all_goals (
    go_enter Try.func43, Try.ntmps43
    go_wp2
    all_goals (go_ret; refine ⟨ret_bool ?_, by first | rfl | simp_all⟩; simp_all [slOk] <;> first | omega | (rw [Bool.eq_iff_iff]; simp; done) | (rw [Bool.eq_iff_iff]; simp; omega)))

theorem Put_any' (n wide : Int) (h0 : 0 ≤ n) (W : World) : Calls Try.prog 41 #[.int .u64 n, .int .i64 wide] W (Gives W (putW n wide)) := Oct.Put_any n wide h0 W
theorem lit_text_at (E : TypeId) (w : World) (g : Nat) (hg : g = w.heap.size) (l : List UInt8) (cs : Array Value) (hcs : cs = (l.map bv).toArray) (hm : l.length ≤ maxLen) {n : Nat} (hn : n = l.length) : IsText (w.alloc (.cells cs E)) (.slice (some ⟨g, 0, none⟩) n n) l := by
  subst hg
  exact lit_text E w l cs hcs hm hn

set_option maxHeartbeats 4000000 in
set_option maxRecDepth 20000 in
theorem Put_any (ack : Bool) (seq bits : Int) (A : Option Addr) (cap : Nat) (l : List UInt8) (m : Int) (h0 : 0 ≤ bits) (W : World) (hA : Bytes W W.heap.size A l) (hc : l.length ≤ cap) (hm : cap ≤ maxLen) :
    Calls Try.prog 12 #[.agg #[.bool ack, .int .i64 seq, .int .u64 bits, .slice A l.length cap], .int .i64 m] W (GivesN (slErr ack seq bits l.length m) W (slPut ack seq bits l m)) := by
  unfold slErr slPut
  have hl : l.length ≤ maxLen := Nat.le_trans hc hm
  cases h : mOk m with
  | false =>
    have H := Lib.hid h; clear h
    go_enter Try.func12, Try.ntmps12
    go_wp2_with (go_at_call 39; refine (modulus_any m _).mono ?_; rw [H.out]; rintro e w' ⟨rfl, rfl⟩)
    go_ret2
    exact ⟨_, rfl, Own.nil _ _ _, below_alloc (Below.refl _ _) _⟩
  | true =>
    cases hk : slOk ack seq bits l.length m with
    | false =>
      have H := Lib.hid h; clear h
      have HK := Lib.hid hk; clear hk
      go_enter Try.func12, Try.ntmps12
      go_wp2_with (first
        | (go_at_call 39; refine (modulus_any m _).mono ?_; rw [H.out]; rintro e w' ⟨rfl, rfl⟩)
        | (go_at_call 40; refine (right_any ack seq bits A l.length cap m hl _).mono ?_; rw [HK.out]; rintro e w' ⟨rfl, rfl⟩))
      go_ret2
      exact ⟨_, rfl, Own.nil _ _ _, below_alloc (below_alloc (Below.refl _ _) _) _⟩
    | true =>
      have hq : 0 ≤ seq ∧ seq < m ∧ m ≤ 65536 ∧ l.length ≤ 64 := by
        simp only [mOk, slOk, Bool.and_eq_true, decide_eq_true_eq] at h hk
        obtain ⟨⟨a, b⟩, c⟩ := hk
        refine ⟨a, b, h.2, ?_⟩
        split at c
        · have := of_decide_eq_true c; omega
        · have := of_decide_eq_true c; omega
      obtain ⟨q0, q1, q2, q3⟩ := hq
      have H := Lib.hid h; clear h
      have HK := Lib.hid hk; clear hk
      cases ack with
      | true =>
        go_enter Try.func12, Try.ntmps12
        go_wp2_with (first
          | (go_at_call 39; refine (modulus_any m _).mono ?_; rw [H.out]; rintro e w' ⟨rfl, rfl⟩)
          | (go_at_call 40; refine (right_any true seq bits A l.length cap m hl _).mono ?_; rw [HK.out]; rintro e w' ⟨rfl, rfl⟩))
        refine (Put_any' seq 2 q0 _).mono ?_
        rintro e w1 ⟨v1, rfl, ho1, hb⟩
        obtain ⟨A1, c1, rfl, _, _, _⟩ := ho1.shape
        obtain ⟨hcl, hf⟩ := bcell hb
        have hd0 : w1.cell? ⟨W.heap.size, 0, none⟩ = some (.bool true) := by rw [hcl _ _ (by simp; omega)]; simp [go_sem]
        have hd2 : w1.cell? ⟨W.heap.size, 2, none⟩ = some (.int .u64 bits) := by rw [hcl _ _ (by simp; omega)]; simp [go_sem]
        have hd3 : w1.cell? ⟨W.heap.size, 3, none⟩ = some (.slice A l.length cap) := by rw [hcl _ _ (by simp; omega)]; simp [go_sem]
        have hb1 := below_next (below_alloc (below_alloc (Below.refl W.heap.size W) _) _) hb
        have hz := Lib.hid hb.size
        have hq0 : W.heap.size < w1.heap.size := by have := hz.out; simp at this; omega
        have HB1 := Lib.hid hb1
        have HO1 := Lib.hid ho1
        clear hcl hf hb hb1 ho1 hz
        go_wp2_with fail
        refine (Put_any' bits 8 h0 _).mono ?_
        rintro e w2 ⟨v2, rfl, ho2, hb2⟩
        obtain ⟨A2, c2, rfl, _, _, _⟩ := ho2.shape
        have hb12 := below_next (below_alloc (Below.refl w1.heap.size w1) _) hb2
        have ht1 := (lit_text_at 5 w1 _ rfl [1] #[.int .u8 1] rfl (by simp [maxLen]) (n := 1) rfl).later hb2
        go_wp2_with fail
        refine (Join_any (some ⟨w2.heap.size, 0, none⟩) 3 [[1], putW seq 2, putW bits 8] _ (texts3 23 w2 _ rfl ht1 (HO1.out.text.later hb12) ho2.text) (by simp) (by have := put_length seq.toNat 2; have e := putW_eq seq 2 (by omega) (by omega); have := put_length bits.toNat 8; have e' := putW_eq bits 8 (by omega) (by omega); simp at e e'; simp [*])).mono ?_
        rintro e w3 ⟨v3, rfl, ho3, hb3⟩
        go_wp2
        go_ret2
        exact ⟨_, rfl, by simpa using ho3.mono (by have := HB1.out.size; have := hb12.size; simp; omega), below_next HB1.out (below_next hb12 (below_next (below_alloc (Below.refl _ _) _) hb3))⟩
      | false =>
        go_enter Try.func12, Try.ntmps12
        go_wp2_with (first
          | (go_at_call 39; refine (modulus_any m _).mono ?_; rw [H.out]; rintro e w' ⟨rfl, rfl⟩)
          | (go_at_call 40; refine (right_any false seq bits A l.length cap m hl _).mono ?_; rw [HK.out]; rintro e w' ⟨rfl, rfl⟩))
        refine (Put_any' seq 2 q0 _).mono ?_
        rintro e w1 ⟨v1, rfl, ho1, hb⟩
        obtain ⟨A1, c1, rfl, _, _, _⟩ := ho1.shape
        obtain ⟨hcl, hf⟩ := bcell hb
        have hd0 : w1.cell? ⟨W.heap.size, 0, none⟩ = some (.bool false) := by rw [hcl _ _ (by simp; omega)]; simp [go_sem]
        have hd2 : w1.cell? ⟨W.heap.size, 2, none⟩ = some (.int .u64 bits) := by rw [hcl _ _ (by simp; omega)]; simp [go_sem]
        have hd3 : w1.cell? ⟨W.heap.size, 3, none⟩ = some (.slice A l.length cap) := by rw [hcl _ _ (by simp; omega)]; simp [go_sem]
        have hb1 := below_next (below_alloc (below_alloc (Below.refl W.heap.size W) _) _) hb
        have hz := Lib.hid hb.size
        have hq0 : W.heap.size < w1.heap.size := by have := hz.out; simp at this; omega
        have HB1 := Lib.hid hb1
        have HO1 := Lib.hid ho1
        clear hcl hf hb hb1 ho1 hz
        go_wp2_with fail
        refine (Join_any (some ⟨w1.heap.size + 1, 0, none⟩) 3 [[0], putW seq 2, l] _ (texts3 23 _ _ (by simp) (lit_text_at 5 w1 _ rfl [0] _ rfl (by simp [maxLen]) (n := 1) rfl) (HO1.out.text.later (below_alloc (Below.refl _ _) _)) ⟨A, cap, rfl, hc, hm, (hA.later HB1.out).later (below_alloc (Below.refl _ _) _)⟩) (by simp) (by have := put_length seq.toNat 2; have e := putW_eq seq 2 (by omega) (by omega); simp at e; simp [e, this]; omega)).mono ?_
        rintro e w2 ⟨v2, rfl, ho2, hb2⟩
        go_wp2
        go_ret2
        exact ⟨_, rfl, by simpa using ho2.mono (by have := HB1.out.size; simp; omega), below_next HB1.out (below_next (below_alloc (below_alloc (Below.refl _ _) _) _) hb2)⟩
end Go.Proofs.Ytonjdkankegdaaa.Slide
