
/- Layer 13 (probe): whether two packets are the same. -/
import Derived.Test.YtonjdkankegdaaaPkt
namespace Go.Proofs.Ytonjdkankegdaaa.Probe
open Go.RowKit Go.Proofs.Ytonjdkankegdaaa.Mem Go.Proofs.Ytonjdkankegdaaa.Oct Go.Proofs.Ytonjdkankegdaaa.Pkt

def prSame (k lb : Int) (l : List UInt8) (k' lb' : Int) (m : List UInt8) : Bool := (k == k') && ((lb == lb') && (l == m))

set_option maxHeartbeats 2000000 in
theorem Same_any (k lb k' lb' : Int) (A B : Option Addr) (ca cb : Nat) (l m : List UInt8) (W : World) (hA : Bytes W W.heap.size A l) (hB : Bytes W W.heap.size B m) :
    Calls Try.prog 28 #[.agg #[.int .i64 k, .int .i64 lb, .slice A l.length ca], .agg #[.int .i64 k', .int .i64 lb', .slice B m.length cb]] W fun e W' => e = .returned (.bool (prSame k lb l k' lb' m)) ∧ Below W.heap.size W W' := by
  unfold prSame
  have hb : Below W.heap.size W ((W.alloc (.cells #[.int .i64 k, .int .i64 lb, .slice A l.length ca] 41)).alloc (.cells #[.int .i64 k', .int .i64 lb', .slice B m.length cb] 41)) := below_alloc (below_alloc (Below.refl _ _) _) _
  cases h1 : k == k' <;> cases h2 : lb == lb'
  all_goals (
    go_enter Try.func28, Try.ntmps28
    go_wp2_with (go_at_call 54; refine (Equal_any A B ca cb l m _ _ _ (hA.later hb) (hB.later hb)).mono ?_; rintro e w' ⟨rfl, rfl⟩)
    go_ret
    exact ⟨rfl, hb⟩)

set_option maxHeartbeats 2000000 in
theorem refPrSame_any (k lb k' lb' : Int) (A B : Option Addr) (ca cb : Nat) (l m : List UInt8) (W : World) (hA : Bytes W W.heap.size A l) (hB : Bytes W W.heap.size B m) (hl : l.length ≤ maxLen) (hm : m.length ≤ maxLen) :
    Calls Try.prog 27 #[.agg #[.int .i64 k, .int .i64 lb, .slice A l.length ca], .agg #[.int .i64 k', .int .i64 lb', .slice B m.length cb]] W fun e W' => e = .returned (.bool (prSame k lb l k' lb' m)) ∧ Below W.heap.size W W' := by
  unfold prSame
  have hb : Below W.heap.size W ((W.alloc (.cells #[.int .i64 k, .int .i64 lb, .slice A l.length ca] 41)).alloc (.cells #[.int .i64 k', .int .i64 lb', .slice B m.length cb] 41)) := below_alloc (below_alloc (Below.refl _ _) _) _
  cases h1 : k == k' <;> cases h2 : lb == lb'
  all_goals (
    go_enter Try.func27, Try.ntmps27
    go_wp2_with (go_at_call 15; refine (refSame_any A B ca cb l m _ _ _ (hA.later hb) (hB.later hb) hl hm).mono ?_; rintro e w' ⟨rfl, hd⟩; replace hb := below_next hb (hd.below _))
    go_ret
    exact ⟨rfl, hb⟩)
end Go.Proofs.Ytonjdkankegdaaa.Probe
