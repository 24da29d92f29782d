
/- Layer 15 (token): the functions' walks. -/
import Derived.Test.YtonjdkankegdaaaPktA
import Derived.Test.YtonjdkankegdaaaOctD
namespace Go.Proofs.Ytonjdkankegdaaa.Token
open Go.RowKit Go.Proofs.Ytonjdkankegdaaa.Mem Go.Proofs.Ytonjdkankegdaaa.Oct Go.Proofs.Ytonjdkankegdaaa.Pkt

/-- which parts a kind has -/
def hC (k : Int) : Bool := k == 1 || k == 2
def hR (k : Int) : Bool := k == 1 || k == 3
def hD (k : Int) : Int := if k = 2 then 64 else 0
def hB (k : Int) : Bool := decide (0 ≤ k ∧ k < 4)
def tkOk (k c r : Int) (n : Nat) : Bool := hB k && ((hC k || c == 0) && ((hR k || r == 0) && decide ((n : Int) ≤ hD k)))

def GivesHas (w : World) (k : Int) (e : Ending) (w' : World) : Prop :=
  e = .returned (.tuple #[.agg #[.bool (hC k), .bool (hR k), .int .i64 (hD k)], .bool (hB k)]) ∧ Below w.heap.size w w'

set_option maxHeartbeats 2000000 in
theorem has_any (k : Int) (W : World) : Calls Try.prog 46 #[.int .i64 k] W (GivesHas W k) := by
  by_cases hk : 0 ≤ k ∧ k < 4
  · have hk4 : k = 0 ∨ k = 1 ∨ k = 2 ∨ k = 3 := by omega
    clear hk
    rcases hk4 with rfl | rfl | rfl | rfl
    · go_enter Try.func46, Try.ntmps46
      go_wp2
      exact bodyPost_ret (v := .tuple #[.agg #[.bool false, .bool false, .int .i64 0], .bool true]) (by simp [results, Try.results46, go_sem]) rfl ⟨rfl, below_alloc (below_alloc (Below.refl _ _) _) _⟩
    · go_enter Try.func46, Try.ntmps46
      go_wp2
      exact bodyPost_ret (v := .tuple #[.agg #[.bool true, .bool true, .int .i64 0], .bool true]) (by simp [results, Try.results46, go_sem]) rfl ⟨rfl, below_alloc (below_alloc (Below.refl _ _) _) _⟩
    · go_enter Try.func46, Try.ntmps46
      go_wp2
      exact bodyPost_ret (v := .tuple #[.agg #[.bool true, .bool false, .int .i64 64], .bool true]) (by simp [results, Try.results46, go_sem]) rfl ⟨rfl, below_alloc (below_alloc (Below.refl _ _) _) _⟩
    · go_enter Try.func46, Try.ntmps46
      go_wp2
      exact bodyPost_ret (v := .tuple #[.agg #[.bool false, .bool true, .int .i64 0], .bool true]) (by simp [results, Try.results46, go_sem]) rfl ⟨rfl, below_alloc (below_alloc (Below.refl _ _) _) _⟩
  · have h1 : hC k = false := by unfold hC; rw [Bool.or_eq_false_iff, beq_eq_false_iff_ne, beq_eq_false_iff_ne]; omega
    have h2 : hR k = false := by unfold hR; rw [Bool.or_eq_false_iff, beq_eq_false_iff_ne, beq_eq_false_iff_ne]; omega
    have h3 : hD k = 0 := if_neg (by omega)
    have h4 : hB k = false := decide_eq_false hk
    unfold GivesHas
    rw [h1, h2, h3, h4]
    clear h1 h2 h3 h4
    have hx : k < 0 ∨ (¬ k < 0 ∧ 4 ≤ k) := by omega
    clear hk
    rcases hx with hx | ⟨hx, hy⟩
    all_goals (
      go_enter Try.func46, Try.ntmps46
      go_wp2
      exact bodyPost_ret (v := .tuple #[.agg #[.bool false, .bool false, .int .i64 0], .bool false]) (by simp [results, Try.results46, go_sem]) rfl ⟨rfl, below_alloc (below_alloc (Below.refl _ _) _) _⟩)
end Go.Proofs.Ytonjdkankegdaaa.Token
