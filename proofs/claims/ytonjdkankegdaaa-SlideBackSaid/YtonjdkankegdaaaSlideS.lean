
/- Layer 14 (slide): whether two packets are the same. -/
import Derived.Test.YtonjdkankegdaaaSlide
namespace Go.Proofs.Ytonjdkankegdaaa.Slide
open Go.RowKit Go.Proofs.Ytonjdkankegdaaa.Mem Go.Proofs.Ytonjdkankegdaaa.Oct Go.Proofs.Ytonjdkankegdaaa.Pkt

def slSame (a : Bool) (x y : Int) (l : List UInt8) (a' : Bool) (x' y' : Int) (m : List UInt8) : Bool := (a == a') && ((x == x') && ((y == y') && (l == m)))
theorem slSame_self (a : Bool) (x y : Int) (l : List UInt8) : slSame a x y l a x y l = true := by simp [slSame]

set_option maxHeartbeats 4000000 in
theorem Same_any (a a' : Bool) (x y x' y' : Int) (A B : Option Addr) (ca cb : Nat) (l m : List UInt8) (W : World) (hA : Bytes W W.heap.size A l) (hB : Bytes W W.heap.size B m) :
    Calls Try.prog 35 #[.agg #[.bool a, .int .i64 x, .int .u64 y, .slice A l.length ca], .agg #[.bool a', .int .i64 x', .int .u64 y', .slice B m.length cb]] W fun e W' => e = .returned (.bool (slSame a x y l a' x' y' m)) ∧ Below W.heap.size W W' := by
  unfold slSame
  have hb : Below W.heap.size W ((W.alloc (.cells #[.bool a, .int .i64 x, .int .u64 y, .slice A l.length ca] 25)).alloc (.cells #[.bool a', .int .i64 x', .int .u64 y', .slice B m.length cb] 25)) := below_alloc (below_alloc (Below.refl _ _) _) _
  have HS := Lib.hid (fun w h1 h2 => Oct.Same_any A B ca cb l m W.heap.size W.heap.size w h1 h2)
  have hA' := hA.below hb (Nat.le_refl _)
  have hB' := hB.below hb (Nat.le_refl _)
  clear hA hB
  cases h1 : a == a'
  · go_enter Try.func35, Try.ntmps35
    go_wp2
    go_ret
    exact ⟨rfl, hb⟩
  cases h2 : x == x'
  · go_enter Try.func35, Try.ntmps35
    go_wp2
    go_ret
    exact ⟨rfl, hb⟩
  cases h3 : y == y'
  · go_enter Try.func35, Try.ntmps35
    go_wp2
    go_ret
    exact ⟨rfl, hb⟩
  go_enter Try.func35, Try.ntmps35
  go_wp2_with fail
  refine (HS.out _ hA' hB').mono ?_
  rintro e w' ⟨rfl, rfl⟩
  go_wp2
  go_ret
  exact ⟨rfl, hb⟩

set_option maxHeartbeats 4000000 in
theorem refSameS_any (a a' : Bool) (x y x' y' : Int) (A B : Option Addr) (ca cb : Nat) (l m : List UInt8) (W : World) (hA : Bytes W W.heap.size A l) (hB : Bytes W W.heap.size B m) (hl : l.length ≤ maxLen) (hm : m.length ≤ maxLen) :
    Calls Try.prog 31 #[.agg #[.bool a, .int .i64 x, .int .u64 y, .slice A l.length ca], .agg #[.bool a', .int .i64 x', .int .u64 y', .slice B m.length cb]] W fun e W' => e = .returned (.bool (slSame a x y l a' x' y' m)) ∧ Below W.heap.size W W' := by
  unfold slSame
  have hb : Below W.heap.size W ((W.alloc (.cells #[.bool a, .int .i64 x, .int .u64 y, .slice A l.length ca] 25)).alloc (.cells #[.bool a', .int .i64 x', .int .u64 y', .slice B m.length cb] 25)) := below_alloc (below_alloc (Below.refl _ _) _) _
  have HS := Lib.hid (fun w h1 h2 => refSame_any A B ca cb l m W.heap.size W.heap.size w h1 h2 hl hm)
  have hA' := hA.below hb (Nat.le_refl _)
  have hB' := hB.below hb (Nat.le_refl _)
  clear hA hB
  cases h1 : a == a'
  · go_enter Try.func31, Try.ntmps31
    go_wp2
    go_ret
    exact ⟨rfl, hb⟩
  cases h2 : x == x'
  · go_enter Try.func31, Try.ntmps31
    go_wp2
    go_ret
    exact ⟨rfl, hb⟩
  cases h3 : y == y'
  · go_enter Try.func31, Try.ntmps31
    go_wp2
    go_ret
    exact ⟨rfl, hb⟩
  go_enter Try.func31, Try.ntmps31
  go_wp2_with fail
  refine (HS.out _ hA' hB').mono ?_
  rintro e w' ⟨rfl, hd⟩
  have hb2 := hb.trans (hd.below W.heap.size)
  go_wp2
  go_ret
  exact ⟨rfl, hb2⟩
end Go.Proofs.Ytonjdkankegdaaa.Slide
