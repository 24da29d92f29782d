
/- Layer 15 (token): the document's Get. -/
import Derived.Test.YtonjdkankegdaaaTokenK
import Derived.Deep.RegionHeld3
import Derived.Deep.DrawnRows
attribute [local go_sem ↓] Go.wp_at_zero Go.wp_at_succ
namespace Go.Proofs.Ytonjdkankegdaaa.Token
open Go.RowKit Go.Proofs.Ytonjdkankegdaaa.Mem Go.Proofs.Ytonjdkankegdaaa.Oct Go.Proofs.Ytonjdkankegdaaa.Pkt

set_option maxHeartbeats 8000000 in
theorem refGetT_3ey (b off c : Nat) (u z : List UInt8) (W : World) (Q : Ending → World → Prop) (hb : b < W.heap.size) (hx : W.cell? ⟨b, off, none⟩ = some (.int .u8 3)) (hu : Bytes W W.heap.size (some ⟨b, off + 1, none⟩) u) (u8 : u.length = 8) (hz : Bytes W W.heap.size (some ⟨b, off + 9, none⟩) z) (z8 : z.length = 8) (hok : tkOk 3 (0) (numW z) 0 = true) (HY : ∀ W' s, IsText W' s [] → Below W.heap.size W W' → Q (.returned (.tuple #[.agg #[.int .i64 3, .int .u64 (numW u), .int .u64 (0), .int .u64 (numW z), s], .int .i64 0])) W') :
    Calls Try.prog 33 #[.slice (some ⟨b, off, none⟩) 17 (c + 17)] W Q := by
  have Nu := Lib.hid (fun cap w h => refNumber_8 b (off + 1) cap u w u8 h)

  have Nz := Lib.hid (fun cap w h => refNumber_8 b (off + 9) cap z w z8 h)

  have HQ := Lib.hid (fun A c' w => refRight_any 3 (numW u) (0) (numW z) A 0 c' w)
  have HOK := Lib.hid hok
  clear hok
  have HY := Lib.hid HY
  generalize numW u = nu at *
  have Hu := Lib.hid hu
  clear hu u8
  generalize numW z = nz at *
  have Hz := Lib.hid hz
  clear hz z8
  have hi1 : (9 : Int) ≤ (c : Int) + 17 := by omega
  have hbne : ¬ b = W.heap.size := by omega
  have hbne2 : ¬ W.heap.size = b := by omega
  have hblt : b < W.heap.size + 1 := by omega
  go_enter Try.func33, Try.ntmps33
  go_wp2_with fail
  go_region_held3 (fun w' => w'.cell? ⟨b, off, none⟩ = some (.int .u8 3))
    (go_keep)
    ((first
      | (go_at_call 56; refine (Nu.out _ _ (by first | exact Hu.out.later (by repeat (first | exact Below.refl _ _ | refine Below.drew ?_ | refine below_alloc ?_ _)) | exact Hu.out.later (by repeat (first | exact Below.refl _ _ | refine Below.drew ?_ | refine Below.setCell ?_ (by simp) _ | refine below_alloc ?_ _)))).mono ?_; rintro e w' ⟨rfl, rfl⟩)
      | fail))
  all_goals go_wp2_with fail
  all_goals (
    refine (Nz.out _ _ (by first | exact Hz.out.later (by repeat (first | exact Below.refl _ _ | refine Below.drew ?_ | refine below_alloc ?_ _)) | exact Hz.out.later (by repeat (first | exact Below.refl _ _ | refine Below.drew ?_ | refine Below.setCell ?_ (by simp) _ | refine below_alloc ?_ _)))).mono ?_
    rintro e w' ⟨rfl, rfl⟩
    go_wp2_with fail)
  all_goals (
    refine (HQ.out none 0 _).mono ?_
    rw [HOK.out]
    rintro e w3 ⟨rfl, hb3⟩
    have hb4 := below_two (W := W) (Z := #[.int .i64 0, .int .u64 0, .int .u64 0, .int .u64 0, .slice none 0 0]) (X := #[.int .i64 3, .int .u64 nu, .int .u64 0, .int .u64 nz, .slice none 0 0]) (T := 36) hb3 (by simp) (fun C => (by first | exact Below.refl _ _ | exact Below.drew (Below.refl _ _)))
    obtain ⟨zc, xc, zf, xf, hz⟩ := two_box hb4
    have c0 : w3.cell? ⟨W.heap.size, 0, none⟩ = some (.int .i64 0) := zc 0
    have c1 : w3.cell? ⟨W.heap.size, 1, none⟩ = some (.int .u64 0) := zc 1
    have c2 : w3.cell? ⟨W.heap.size, 2, none⟩ = some (.int .u64 0) := zc 2
    have c3 : w3.cell? ⟨W.heap.size, 3, none⟩ = some (.int .u64 0) := zc 3
    have c4 : w3.cell? ⟨W.heap.size, 4, none⟩ = some (.slice none 0 0) := zc 4
    have x0 : w3.cell? ⟨W.heap.size + 1, 0, none⟩ = some (.int .i64 3) := xc 0
    have x1 : w3.cell? ⟨W.heap.size + 1, 1, none⟩ = some (.int .u64 nu) := xc 1
    have x2 : w3.cell? ⟨W.heap.size + 1, 2, none⟩ = some (.int .u64 0) := xc 2
    have x3 : w3.cell? ⟨W.heap.size + 1, 3, none⟩ = some (.int .u64 nz) := xc 3
    have x4 : w3.cell? ⟨W.heap.size + 1, 4, none⟩ = some (.slice none 0 0) := xc 4
    have f0 : w3.frozen? ⟨W.heap.size, 0, none⟩ = false := zf 0
    have f1 : w3.frozen? ⟨W.heap.size, 1, none⟩ = false := zf 1
    have f2 : w3.frozen? ⟨W.heap.size, 2, none⟩ = false := zf 2
    have f3 : w3.frozen? ⟨W.heap.size, 3, none⟩ = false := zf 3
    have f4 : w3.frozen? ⟨W.heap.size, 4, none⟩ = false := zf 4
    have HB := Lib.hid (show Below W.heap.size W w3 from (below_alloc (below_alloc (Below.refl W.heap.size W) _) _).trans (hb4.mono (by omega)))
    clear hb3 hb4 zc xc zf xf
    go_wp2_with fail
    exact bodyPost_ret (v := .tuple #[.agg #[.int .i64 3, .int .u64 nu, .int .u64 0, .int .u64 nz, .slice none 0 0], .int .i64 0]) (by simp [results, Try.results33, go_sem, c0, c1, c2, c3, c4]) rfl (HY.out _ _ (IsText.nil _) (((((HB.out.setCell (p := ⟨W.heap.size, 0, none⟩) (Nat.le_refl _) _).setCell (p := ⟨W.heap.size, 1, none⟩) (Nat.le_refl _) _).setCell (p := ⟨W.heap.size, 2, none⟩) (Nat.le_refl _) _).setCell (p := ⟨W.heap.size, 3, none⟩) (Nat.le_refl _) _).setCell (p := ⟨W.heap.size, 4, none⟩) (Nat.le_refl _) _)))

set_option maxHeartbeats 8000000 in
theorem refGetT_3nf (b off c : Nat) (u z r : List UInt8) (W : World) (Q : Ending → World → Prop) (hb : b < W.heap.size) (hx : W.cell? ⟨b, off, none⟩ = some (.int .u8 3)) (hu : Bytes W W.heap.size (some ⟨b, off + 1, none⟩) u) (u8 : u.length = 8) (hz : Bytes W W.heap.size (some ⟨b, off + 9, none⟩) z) (z8 : z.length = 8) (hr : Bytes W W.heap.size (some ⟨b, off + 17, none⟩) r) (hne : 0 < r.length) (hc : r.length ≤ c) (hl : r.length ≤ 140737488355000) (hok : tkOk 3 (0) (numW z) r.length = false) (HN : ∀ W', Below W.heap.size W W' → Q (.returned (.tuple #[.agg #[.int .i64 0, .int .u64 0, .int .u64 0, .int .u64 0, .slice none 0 0], .int .i64 130])) W') :
    Calls Try.prog 33 #[.slice (some ⟨b, off, none⟩) (r.length + 17) (c + 17)] W Q := by
  have Nu := Lib.hid (fun cap w h => refNumber_8 b (off + 1) cap u w u8 h)

  have Nz := Lib.hid (fun cap w h => refNumber_8 b (off + 9) cap z w z8 h)

  have HQ := Lib.hid (fun A c' w => refRight_any 3 (numW u) (0) (numW z) A r.length c' w)
  have HOK := Lib.hid hok
  clear hok
  have HN := Lib.hid HN
  generalize numW u = nu at *
  have Hu := Lib.hid hu
  clear hu u8
  generalize numW z = nz at *
  have Hz := Lib.hid hz
  clear hz z8
  have NC := Lib.hid (fun w h => Pkt.Copy_any (some ⟨b, off + 17, none⟩) r.length c r w rfl h (by omega))
  have HR := Lib.hid hr
  have HC := Lib.hid hc
  have HL := Lib.hid hl
  have HNE := Lib.hid hne
  have hk0 : ¬ c = 0 := by omega
  generalize hrl : r.length = m at *
  have HRL := Lib.hid hrl
  clear hrl
  have hm0 : (0 : Int) < (m : Int) := by omega
  have hpos : (0 : Int) < (m : Int) + 17 := by omega
  have hge9 : ¬ ((m : Int) + 17 < 9) := by omega
  have hle0 : (9 : Int) ≤ (m : Int) + 17 := by omega
  have hle1 : (m : Int) + 17 ≤ (c : Int) + 17 := by omega
  have hgs8 : ¬ ((m : Int) + 8 < 8) := by omega
  have hlt8 : (8 : Int) ≤ (m : Int) + 8 := by omega
  have hls8 : (m : Int) + 8 ≤ (c : Int) + 8 := by omega
  have hmc : (m : Int) ≤ (c : Int) := by omega
  clear hr hc hl hne
  have hi1 : (9 : Int) ≤ (c : Int) + 17 := by omega
  have hbne : ¬ b = W.heap.size := by omega
  have hbne2 : ¬ W.heap.size = b := by omega
  have hblt : b < W.heap.size + 1 := by omega
  go_enter Try.func33, Try.ntmps33
  go_wp2_with fail
  go_region_held3 (fun w' => w'.cell? ⟨b, off, none⟩ = some (.int .u8 3))
    (go_keep)
    ((first
      | (go_at_call 56; refine (Nu.out _ _ (by first | exact Hu.out.later (by repeat (first | exact Below.refl _ _ | refine Below.drew ?_ | refine below_alloc ?_ _)) | exact Hu.out.later (by repeat (first | exact Below.refl _ _ | refine Below.drew ?_ | refine Below.setCell ?_ (by simp) _ | refine below_alloc ?_ _)))).mono ?_; rintro e w' ⟨rfl, rfl⟩)
      | fail))
  all_goals go_wp2_with fail
  all_goals (
    refine (Nz.out _ _ (by first | exact Hz.out.later (by repeat (first | exact Below.refl _ _ | refine Below.drew ?_ | refine below_alloc ?_ _)) | exact Hz.out.later (by repeat (first | exact Below.refl _ _ | refine Below.drew ?_ | refine Below.setCell ?_ (by simp) _ | refine below_alloc ?_ _)))).mono ?_
    rintro e w' ⟨rfl, rfl⟩
    go_wp2_with fail)
  all_goals (
    refine (NC.out _ (by first | exact HR.out.later (by repeat (first | exact Below.refl _ _ | refine Below.drew ?_ | refine below_alloc ?_ _)) | exact HR.out.later (by repeat (first | exact Below.refl _ _ | refine Below.drew ?_ | refine Below.setCell ?_ (by simp) _ | refine below_alloc ?_ _)))).mono ?_
    rintro e w2 ⟨v2, rfl, ho2, hb2⟩
    obtain ⟨A2, k2, rfl, _, _, _⟩ := ho2.shape
    rw [HRL.out] at ho2
    have ho2' : Own 5 w2 (W.heap.size + 2) (.slice A2 m k2) r := by first | simpa [HRL.out] using ho2 | simpa using ho2
    have hb4 := below_two (W := W) (Z := #[.int .i64 0, .int .u64 0, .int .u64 0, .int .u64 0, .slice none 0 0]) (X := #[.int .i64 3, .int .u64 nu, .int .u64 0, .int .u64 nz, .slice none 0 0]) (T := 36) hb2 (by simp) (fun C => (by first | exact Below.refl _ _ | exact Below.drew (Below.refl _ _)))
    obtain ⟨zc, xc, zf, xf, hz⟩ := two_box hb4
    have c0 : w2.cell? ⟨W.heap.size, 0, none⟩ = some (.int .i64 0) := zc 0
    have c1 : w2.cell? ⟨W.heap.size, 1, none⟩ = some (.int .u64 0) := zc 1
    have c2 : w2.cell? ⟨W.heap.size, 2, none⟩ = some (.int .u64 0) := zc 2
    have c3 : w2.cell? ⟨W.heap.size, 3, none⟩ = some (.int .u64 0) := zc 3
    have c4 : w2.cell? ⟨W.heap.size, 4, none⟩ = some (.slice none 0 0) := zc 4
    have x0 : w2.cell? ⟨W.heap.size + 1, 0, none⟩ = some (.int .i64 3) := xc 0
    have x1 : w2.cell? ⟨W.heap.size + 1, 1, none⟩ = some (.int .u64 nu) := xc 1
    have x2 : w2.cell? ⟨W.heap.size + 1, 2, none⟩ = some (.int .u64 0) := xc 2
    have x3 : w2.cell? ⟨W.heap.size + 1, 3, none⟩ = some (.int .u64 nz) := xc 3
    have x4 : w2.cell? ⟨W.heap.size + 1, 4, none⟩ = some (.slice none 0 0) := xc 4
    have xf4 : w2.frozen? ⟨W.heap.size + 1, 4, none⟩ = false := xf 4
    have HZF := Lib.hid zf
    have HZ := Lib.hid hz
    have HB := Lib.hid (show Below W.heap.size W w2 from (below_alloc (below_alloc (Below.refl W.heap.size W) _) _).trans (hb4.mono (by omega)))
    have HO := Lib.hid ho2'
    clear hb2 hb4 zc xc xf zf hz ho2 ho2'
    rw [HRL.out]
    go_wp2_with fail
    refine (HQ.out A2 k2 _).mono ?_
    rw [HOK.out]
    rintro e w3 ⟨rfl, hb3⟩
    have hm := box_more hb3 HZ.out x4
    obtain ⟨m1, m2, m3, m4⟩ := hm
    have c0 := (m1 0).trans c0
    have c1 := (m1 1).trans c1
    have c2 := (m1 2).trans c2
    have c3 := (m1 3).trans c3
    have c4 := (m1 4).trans c4
    have x0 := (m2 0 (by decide)).trans x0
    have x1 := (m2 1 (by decide)).trans x1
    have x2 := (m2 2 (by decide)).trans x2
    have x3 := (m2 3 (by decide)).trans x3
    have x4 := m3
    have f0 := (m4 0).trans (HZF.out 0)
    have f1 := (m4 1).trans (HZF.out 1)
    have f2 := (m4 2).trans (HZF.out 2)
    have f3 := (m4 3).trans (HZF.out 3)
    have f4 := (m4 4).trans (HZF.out 4)
    have HB3 := Lib.hid (below_trans2 (HB.out.setCell (p := ⟨W.heap.size + 1, 4, none⟩) (by simp) (.slice A2 m k2)) hb3 (by have := HZ.out; simp [World.setCell]; omega))
    have HO3 := Lib.hid ((own_mid HO.out ((Mid.refl _ _).setCell (p := ⟨W.heap.size + 1, 4, none⟩) (by simp) (.slice A2 m k2))).below hb3)
    clear hb3 m1 m2 m3 m4
    go_wp2_with fail
    exact bodyPost_ret (v := .tuple #[.agg #[.int .i64 0, .int .u64 0, .int .u64 0, .int .u64 0, .slice none 0 0], .int .i64 130]) (by simp [results, Try.results33, go_sem, c0, c1, c2, c3, c4]) rfl (HN.out _ (((((HB3.out.setCell (p := ⟨W.heap.size, 0, none⟩) (Nat.le_refl _) _).setCell (p := ⟨W.heap.size, 1, none⟩) (Nat.le_refl _) _).setCell (p := ⟨W.heap.size, 2, none⟩) (Nat.le_refl _) _).setCell (p := ⟨W.heap.size, 3, none⟩) (Nat.le_refl _) _).setCell (p := ⟨W.heap.size, 4, none⟩) (Nat.le_refl _) _)))

set_option maxHeartbeats 8000000 in
theorem refGetT_3s1 (b off m c : Nat) (u : List UInt8) (W : World) (Q : Ending → World → Prop) (hb : b < W.heap.size) (hx : W.cell? ⟨b, off, none⟩ = some (.int .u8 3)) (hm : m < 8) (hc : m ≤ c) (hu : Bytes W W.heap.size (some ⟨b, off + 1, none⟩) u) (u8 : u.length = 8) (HN : ∀ W', Below W.heap.size W W' → Q (.returned (.tuple #[.agg #[.int .i64 0, .int .u64 0, .int .u64 0, .int .u64 0, .slice none 0 0], .int .i64 130])) W') :
    Calls Try.prog 33 #[.slice (some ⟨b, off, none⟩) (m + 9) (c + 9)] W Q := by
  have HN := Lib.hid HN
  have Nu := Lib.hid (fun cap w h => refNumber_8 b (off + 1) cap u w u8 h)
  generalize numW u = nu at *
  have Hu := Lib.hid hu
  clear hu u8
  have hge9 : ¬ ((m : Int) + 9 < 9) := by omega
  have hle0 : (9 : Int) ≤ (m : Int) + 9 := by omega
  have hle1 : (m : Int) + 9 ≤ (c : Int) + 9 := by omega
  have hmc : (m : Int) ≤ (c : Int) := by omega
  have hm8 : (m : Int) < 8 := by omega
  have hpos : (0 : Int) < (m : Int) + 9 := by omega
  have hi1 : (9 : Int) ≤ (c : Int) + 9 := by omega
  have hbne : ¬ b = W.heap.size := by omega
  have hbne2 : ¬ W.heap.size = b := by omega
  have hblt : b < W.heap.size + 1 := by omega
  clear hm hc
  go_enter Try.func33, Try.ntmps33
  go_wp2_with fail
  go_region_held3 (fun w' => w'.cell? ⟨b, off, none⟩ = some (.int .u8 3))
    (go_keep)
    ((first
      | (go_at_call 56; refine (Nu.out _ _ (by first | exact Hu.out.later (by repeat (first | exact Below.refl _ _ | refine Below.drew ?_ | refine below_alloc ?_ _)) | exact Hu.out.later (by repeat (first | exact Below.refl _ _ | refine Below.drew ?_ | refine Below.setCell ?_ (by simp) _ | refine below_alloc ?_ _)))).mono ?_; rintro e w' ⟨rfl, rfl⟩)
      | fail))
  all_goals go_wp2_with fail
  all_goals exact bodyPost_ret (v := .tuple #[.agg #[.int .i64 0, .int .u64 0, .int .u64 0, .int .u64 0, .slice none 0 0], .int .i64 130]) (by simp [results, Try.results33, go_sem]) rfl (HN.out _ (by repeat (first | exact Below.refl _ _ | refine Below.drew ?_ | refine below_alloc ?_ _)))

end Go.Proofs.Ytonjdkankegdaaa.Token
