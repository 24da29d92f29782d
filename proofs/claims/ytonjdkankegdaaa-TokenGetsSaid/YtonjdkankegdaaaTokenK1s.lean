
/- Layer 15 (token): the document's Get. -/
import Derived.Test.YtonjdkankegdaaaTokenK
import Derived.Deep.RegionHeld3
import Derived.Deep.DrawnRows
attribute [local go_sem ↓] Go.wp_at_zero Go.wp_at_succ
namespace Go.Proofs.Ytonjdkankegdaaa.Token
open Go.RowKit Go.Proofs.Ytonjdkankegdaaa.Mem Go.Proofs.Ytonjdkankegdaaa.Oct Go.Proofs.Ytonjdkankegdaaa.Pkt

set_option maxHeartbeats 8000000 in
theorem refGetT_1s1 (b off m c : Nat) (u : List UInt8) (W : World) (Q : Ending → World → Prop) (hb : b < W.heap.size) (hx : W.cell? ⟨b, off, none⟩ = some (.int .u8 1)) (hm : m < 8) (hc : m ≤ c) (hu : Bytes W W.heap.size (some ⟨b, off + 1, none⟩) u) (u8 : u.length = 8) (HN : ∀ W', Below W.heap.size W W' → Q (.returned (.tuple #[.agg #[.int .i64 0, .int .u64 0, .int .u64 0, .int .u64 0, .slice none 0 0], .int .i64 130])) W') :
    Calls Try.prog 33 #[.slice (some ⟨b, off, none⟩) (m + 9) (c + 9)] W Q := by
  have HN := Lib.hid HN
  have Nu := Lib.hid (fun cap w h => refNumber_8 b (off + 1) cap u w u8 h)
  generalize numW u = nu at *
  have Hu := Lib.hid hu
  clear hu u8
  have hge9 : ¬ ((m : Int) + 9 < 9) := by omega
  have hle0 : (9 : Int) ≤ (m : Int) + 9 := by omega
  have hle1 : (m : Int) + 9 ≤ (c : Int) + 9 := by omega
  have hmc : (m : Int) ≤ (c : Int) := by omega
  have hm8 : (m : Int) < 8 := by omega
  have hpos : (0 : Int) < (m : Int) + 9 := by omega
  have hi1 : (9 : Int) ≤ (c : Int) + 9 := by omega
  have hbne : ¬ b = W.heap.size := by omega
  have hbne2 : ¬ W.heap.size = b := by omega
  have hblt : b < W.heap.size + 1 := by omega
  clear hm hc
  go_enter Try.func33, Try.ntmps33
  go_wp2_with fail
  go_region_held3 (fun w' => w'.cell? ⟨b, off, none⟩ = some (.int .u8 1))
    (go_keep)
    ((first
      | (go_at_call 56; refine (Nu.out _ _ (by first | exact Hu.out.later (by repeat (first | exact Below.refl _ _ | refine Below.drew ?_ | refine below_alloc ?_ _)) | exact Hu.out.later (by repeat (first | exact Below.refl _ _ | refine Below.drew ?_ | refine Below.setCell ?_ (by simp) _ | refine below_alloc ?_ _)))).mono ?_; rintro e w' ⟨rfl, rfl⟩)
      | fail))
  all_goals go_wp2_with fail
  all_goals exact bodyPost_ret (v := .tuple #[.agg #[.int .i64 0, .int .u64 0, .int .u64 0, .int .u64 0, .slice none 0 0], .int .i64 130]) (by simp [results, Try.results33, go_sem]) rfl (HN.out _ (by repeat (first | exact Below.refl _ _ | refine Below.drew ?_ | refine below_alloc ?_ _)))

set_option maxHeartbeats 8000000 in
theorem refGetT_1s2 (b off m c : Nat) (u v : List UInt8) (W : World) (Q : Ending → World → Prop) (hb : b < W.heap.size) (hx : W.cell? ⟨b, off, none⟩ = some (.int .u8 1)) (hm : m < 8) (hc : m ≤ c) (hu : Bytes W W.heap.size (some ⟨b, off + 1, none⟩) u) (u8 : u.length = 8) (hv : Bytes W W.heap.size (some ⟨b, off + 9, none⟩) v) (v8 : v.length = 8) (HN : ∀ W', Below W.heap.size W W' → Q (.returned (.tuple #[.agg #[.int .i64 0, .int .u64 0, .int .u64 0, .int .u64 0, .slice none 0 0], .int .i64 130])) W') :
    Calls Try.prog 33 #[.slice (some ⟨b, off, none⟩) (m + 17) (c + 17)] W Q := by
  have HN := Lib.hid HN
  have Nu := Lib.hid (fun cap w h => refNumber_8 b (off + 1) cap u w u8 h)
  generalize numW u = nu at *
  have Hu := Lib.hid hu
  clear hu u8
  have Nv := Lib.hid (fun cap w h => refNumber_8 b (off + 9) cap v w v8 h)
  generalize numW v = nv at *
  have Hv := Lib.hid hv
  clear hv v8
  have hge9 : ¬ ((m : Int) + 17 < 9) := by omega
  have hle0 : (9 : Int) ≤ (m : Int) + 17 := by omega
  have hle1 : (m : Int) + 17 ≤ (c : Int) + 17 := by omega
  have hmc : (m : Int) ≤ (c : Int) := by omega
  have hm8 : (m : Int) < 8 := by omega
  have hpos : (0 : Int) < (m : Int) + 17 := by omega
  have hgs8 : ¬ ((m : Int) + 8 < 8) := by omega
  have hlt8 : (8 : Int) ≤ (m : Int) + 8 := by omega
  have hls8 : (m : Int) + 8 ≤ (c : Int) + 8 := by omega
  have hi1 : (9 : Int) ≤ (c : Int) + 17 := by omega
  have hbne : ¬ b = W.heap.size := by omega
  have hbne2 : ¬ W.heap.size = b := by omega
  have hblt : b < W.heap.size + 1 := by omega
  clear hm hc
  go_enter Try.func33, Try.ntmps33
  go_wp2_with fail
  go_region_held3 (fun w' => w'.cell? ⟨b, off, none⟩ = some (.int .u8 1))
    (go_keep)
    ((first
      | (go_at_call 56; refine (Nu.out _ _ (by first | exact Hu.out.later (by repeat (first | exact Below.refl _ _ | refine Below.drew ?_ | refine below_alloc ?_ _)) | exact Hu.out.later (by repeat (first | exact Below.refl _ _ | refine Below.drew ?_ | refine Below.setCell ?_ (by simp) _ | refine below_alloc ?_ _)))).mono ?_; rintro e w' ⟨rfl, rfl⟩)
      | fail))
  all_goals go_wp2_with fail
  all_goals (
    refine (Nv.out _ _ (by first | exact Hv.out.later (by repeat (first | exact Below.refl _ _ | refine Below.drew ?_ | refine below_alloc ?_ _)) | exact Hv.out.later (by repeat (first | exact Below.refl _ _ | refine Below.drew ?_ | refine Below.setCell ?_ (by simp) _ | refine below_alloc ?_ _)))).mono ?_
    rintro e w' ⟨rfl, rfl⟩
    go_wp2_with fail)
  all_goals exact bodyPost_ret (v := .tuple #[.agg #[.int .i64 0, .int .u64 0, .int .u64 0, .int .u64 0, .slice none 0 0], .int .i64 130]) (by simp [results, Try.results33, go_sem]) rfl (HN.out _ (by repeat (first | exact Below.refl _ _ | refine Below.drew ?_ | refine below_alloc ?_ _)))

end Go.Proofs.Ytonjdkankegdaaa.Token
