
/- Layer 15 (token): which packets may be; whether two are the same. -/
import Derived.Test.YtonjdkankegdaaaToken
namespace Go.Proofs.Ytonjdkankegdaaa.Token
open Go.RowKit Go.Proofs.Ytonjdkankegdaaa.Mem Go.Proofs.Ytonjdkankegdaaa.Oct Go.Proofs.Ytonjdkankegdaaa.Pkt

theorem hD_bd (k : Int) : 0 ≤ hD k ∧ hD k ≤ 64 := by unfold hD; split <;> omega

set_option maxHeartbeats 4000000 in
theorem right_any (k t c r : Int) (A : Option Addr) (n cap : Nat) (W : World) :
    Calls Try.prog 45 #[.agg #[.int .i64 k, .int .u64 t, .int .u64 c, .int .u64 r, .slice A n cap]] W fun e W' => e = .returned (.bool (tkOk k c r n)) ∧ Below W.heap.size W W' := by
  have hh := fun w => has_any k w
  have hd := hD_bd k
  unfold GivesHas at hh
  unfold tkOk
  generalize hC k = pc at *
  generalize hR k = pr at *
  generalize hD k = pd at *
  generalize hB k = ok at *
  have HH := Lib.hid hh
  clear hh
  obtain ⟨hd0, hd1⟩ := hd
  go_enter Try.func45, Try.ntmps45
  go_wp2_with fail
  refine (HH.out _).mono ?_
  rintro e w1 ⟨rfl, hb⟩
  have hb1 := below_next (below_alloc (Below.refl W.heap.size W) _) hb
  obtain ⟨hcl, hf⟩ := bcell hb
  have hz1 : W.heap.size + 1 ≤ w1.heap.size := by have := hb.size; simp at this; omega
  have hp2 : w1.cell? ⟨W.heap.size, 2, none⟩ = some (.int .u64 c) := by rw [hcl _ _ (by simp)]; simp [go_sem]
  have hp3 : w1.cell? ⟨W.heap.size, 3, none⟩ = some (.int .u64 r) := by rw [hcl _ _ (by simp)]; simp [go_sem]
  have hp4 : w1.cell? ⟨W.heap.size, 4, none⟩ = some (.slice A n cap) := by rw [hcl _ _ (by simp)]; simp [go_sem]
  have hq0 : W.heap.size < w1.heap.size := by omega
  have hq1 : ¬ W.heap.size = w1.heap.size := by omega
  have hq2 : ¬ w1.heap.size = W.heap.size := by omega
  have HB := Lib.hid (below_alloc hb1 (.cells #[.bool pc, .bool pr, .int .i64 pd] 73))
  clear hcl hf hb hb1
  cases ok with
  | false =>
    go_wp2
    go_ret
    exact ⟨rfl, HB.out⟩
  | true =>
    cases pc <;> cases hcz : c == 0 <;> cases pr <;> cases hrz : r == 0
    all_goals (
      go_wp2
      go_ret
      exact ⟨ret_bool (by rw [hcz, hrz]; rfl), HB.out⟩)

set_option maxHeartbeats 4000000 in
theorem refRight_any (k t c r : Int) (A : Option Addr) (n cap : Nat) (W : World) :
    Calls Try.prog 47 #[.agg #[.int .i64 k, .int .u64 t, .int .u64 c, .int .u64 r, .slice A n cap]] W fun e W' => e = .returned (.bool (tkOk k c r n)) ∧ Below W.heap.size W W' := by
  have hb := below_alloc (Below.refl W.heap.size W) (.cells #[.int .i64 k, .int .u64 t, .int .u64 c, .int .u64 r, .slice A n cap] 36)
  have HB := Lib.hid hb
  clear hb
  have hx : k = 0 ∨ k = 1 ∨ k = 2 ∨ k = 3 ∨ (hB k = false ∧ (k == 0) = false ∧ (k == 1) = false ∧ (k == 2) = false ∧ (k == 3) = false) := by
    by_cases h : 0 ≤ k ∧ k < 4
    · omega
    · exact .inr (.inr (.inr (.inr ⟨decide_eq_false h, by simp; omega, by simp; omega, by simp; omega, by simp; omega⟩)))
  rcases hx with rfl | rfl | rfl | rfl | ⟨hx, h0, h1, h2, h3⟩
  · have e : tkOk 0 c r n = (c == 0 && (r == 0 && decide ((n : Int) ≤ 0))) := rfl
    have e2 : decide ((n : Int) ≤ 0) = ((n : Int) == 0) := by rw [Bool.eq_iff_iff]; simp
    rw [e, e2]
    clear e e2
    cases hcz : c == 0 <;> cases hrz : r == 0
    all_goals (
      go_enter Try.func47, Try.ntmps47
      go_wp2
      go_ret
      exact ⟨rfl, HB.out⟩)
  · have e : tkOk 1 c r n = decide ((n : Int) ≤ 0) := rfl
    have e2 : decide ((n : Int) ≤ 0) = ((n : Int) == 0) := by rw [Bool.eq_iff_iff]; simp
    rw [e, e2]
    clear e e2
    go_enter Try.func47, Try.ntmps47
    go_wp2
    go_ret
    exact ⟨rfl, HB.out⟩
  · have e : tkOk 2 c r n = (r == 0 && decide ((n : Int) ≤ 64)) := rfl
    rw [e]
    clear e
    cases hrz : r == 0
    all_goals (
      go_enter Try.func47, Try.ntmps47
      go_wp2
      go_ret
      exact ⟨rfl, HB.out⟩)
  · have e : tkOk 3 c r n = (c == 0 && decide ((n : Int) ≤ 0)) := by unfold tkOk; cases (c == 0) <;> simp [hC, hR, hD, hB]
    have e2 : decide ((n : Int) ≤ 0) = ((n : Int) == 0) := by rw [Bool.eq_iff_iff]; simp
    rw [e, e2]
    clear e e2
    cases hcz : c == 0
    all_goals (
      go_enter Try.func47, Try.ntmps47
      go_wp2
      go_ret
      exact ⟨rfl, HB.out⟩)
  · have e : tkOk k c r n = false := by unfold tkOk; rw [hx]; rfl
    rw [e]
    clear e hx
    go_enter Try.func47, Try.ntmps47
    go_wp2
    go_ret
    exact ⟨rfl, HB.out⟩

def tkSame (k t c r : Int) (l : List UInt8) (k' t' c' r' : Int) (m : List UInt8) : Bool := (k == k') && ((t == t') && ((c == c') && ((r == r') && (l == m))))
theorem tkSame_self (k t c r : Int) (l : List UInt8) : tkSame k t c r l k t c r l = true := by simp [tkSame]

set_option maxHeartbeats 4000000 in
theorem Same_any (k t c r k' t' c' r' : Int) (A B : Option Addr) (ca cb : Nat) (l m : List UInt8) (W : World) (hA : Bytes W W.heap.size A l) (hB : Bytes W W.heap.size B m) :
    Calls Try.prog 36 #[.agg #[.int .i64 k, .int .u64 t, .int .u64 c, .int .u64 r, .slice A l.length ca], .agg #[.int .i64 k', .int .u64 t', .int .u64 c', .int .u64 r', .slice B m.length cb]] W fun e W' => e = .returned (.bool (tkSame k t c r l k' t' c' r' m)) ∧ Below W.heap.size W W' := by
  unfold tkSame
  have hb : Below W.heap.size W ((W.alloc (.cells #[.int .i64 k, .int .u64 t, .int .u64 c, .int .u64 r, .slice A l.length ca] 36)).alloc (.cells #[.int .i64 k', .int .u64 t', .int .u64 c', .int .u64 r', .slice B m.length cb] 36)) := below_alloc (below_alloc (Below.refl _ _) _) _
  have HS := Lib.hid (fun w h1 h2 => Oct.Same_any A B ca cb l m W.heap.size W.heap.size w h1 h2)
  have hA' := hA.below hb (Nat.le_refl _)
  have hB' := hB.below hb (Nat.le_refl _)
  clear hA hB
  cases h1 : k == k'
  · go_enter Try.func36, Try.ntmps36
    go_wp2
    go_ret
    exact ⟨rfl, hb⟩
  cases h2 : t == t'
  · go_enter Try.func36, Try.ntmps36
    go_wp2
    go_ret
    exact ⟨rfl, hb⟩
  cases h3 : c == c'
  · go_enter Try.func36, Try.ntmps36
    go_wp2
    go_ret
    exact ⟨rfl, hb⟩
  cases h4 : r == r'
  · go_enter Try.func36, Try.ntmps36
    go_wp2
    go_ret
    exact ⟨rfl, hb⟩
  go_enter Try.func36, Try.ntmps36
  go_wp2_with fail
  refine (HS.out _ hA' hB').mono ?_
  rintro e w' ⟨rfl, rfl⟩
  go_wp2
  go_ret
  exact ⟨rfl, hb⟩

set_option maxHeartbeats 4000000 in
theorem refSameT_any (k t c r k' t' c' r' : Int) (A B : Option Addr) (ca cb : Nat) (l m : List UInt8) (W : World) (hA : Bytes W W.heap.size A l) (hB : Bytes W W.heap.size B m) (hl : l.length ≤ maxLen) (hm : m.length ≤ maxLen) :
    Calls Try.prog 34 #[.agg #[.int .i64 k, .int .u64 t, .int .u64 c, .int .u64 r, .slice A l.length ca], .agg #[.int .i64 k', .int .u64 t', .int .u64 c', .int .u64 r', .slice B m.length cb]] W fun e W' => e = .returned (.bool (tkSame k t c r l k' t' c' r' m)) ∧ Below W.heap.size W W' := by
  unfold tkSame
  have hb : Below W.heap.size W ((W.alloc (.cells #[.int .i64 k, .int .u64 t, .int .u64 c, .int .u64 r, .slice A l.length ca] 36)).alloc (.cells #[.int .i64 k', .int .u64 t', .int .u64 c', .int .u64 r', .slice B m.length cb] 36)) := below_alloc (below_alloc (Below.refl _ _) _) _
  have HS := Lib.hid (fun w h1 h2 => refSame_any A B ca cb l m W.heap.size W.heap.size w h1 h2 hl hm)
  have hA' := hA.below hb (Nat.le_refl _)
  have hB' := hB.below hb (Nat.le_refl _)
  clear hA hB
  cases h1 : k == k'
  · go_enter Try.func34, Try.ntmps34
    go_wp2
    go_ret
    exact ⟨rfl, hb⟩
  cases h2 : t == t'
  · go_enter Try.func34, Try.ntmps34
    go_wp2
    go_ret
    exact ⟨rfl, hb⟩
  cases h3 : c == c'
  · go_enter Try.func34, Try.ntmps34
    go_wp2
    go_ret
    exact ⟨rfl, hb⟩
  cases h4 : r == r'
  · go_enter Try.func34, Try.ntmps34
    go_wp2
    go_ret
    exact ⟨rfl, hb⟩
  go_enter Try.func34, Try.ntmps34
  go_wp2_with fail
  refine (HS.out _ hA' hB').mono ?_
  rintro e w' ⟨rfl, hd⟩
  have hb2 := hb.trans (hd.below W.heap.size)
  go_wp2
  go_ret
  exact ⟨rfl, hb2⟩
end Go.Proofs.Ytonjdkankegdaaa.Token
