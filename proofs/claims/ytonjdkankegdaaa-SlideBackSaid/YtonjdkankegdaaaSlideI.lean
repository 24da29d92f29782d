
/- Layer 14 (slide): the document's Get. -/
import Derived.Test.YtonjdkankegdaaaSlideH
import Derived.Deep.RegionHeld3
import Derived.Deep.DrawnRows
attribute [local go_sem ↓] Go.wp_at_zero Go.wp_at_succ
namespace Go.Proofs.Ytonjdkankegdaaa.Slide
open Go.RowKit Go.Proofs.Ytonjdkankegdaaa.Mem Go.Proofs.Ytonjdkankegdaaa.Oct Go.Proofs.Ytonjdkankegdaaa.Pkt

theorem refNumber_n (A : Option Addr) (n cap : Nat) (l : List UInt8) (W : World) (hn : n = l.length) (hA : Bytes W W.heap.size A l) (hl : l.length ≤ maxLen) :
    Calls Try.prog 56 #[.slice A n cap] W fun e W' => e = .returned (.int .u64 (numW l)) ∧ W = W' := by
  subst hn
  exact refNumber_any A cap l W hA hl

theorem gs_yes' {w w' : World} {b : List UInt8} {m : Int} (h : mOk m = true) (hg : gOkS b m = true) {a : Bool} {x y : Int} {d : List UInt8} {v : Value} (h1 : rA b = a) (h2 : rS b = x) (h3 : rB b = y) (h4 : rD b = d) (ht : IsText w' v d) (hb : Below w.heap.size w w') : GivesS w b m (.returned (.tuple #[.agg #[.bool a, .int .i64 x, .int .u64 y, v], .int .i64 0])) w' := by
  subst h1 h2 h3 h4
  exact gs_yes h hg ht hb

set_option maxHeartbeats 8000000 in
theorem refGet_0ey (b off k : Nat) (c1 c2 : UInt8) (m : Int) (W : World) (hb : b < W.heap.size) (hx : W.cell? ⟨b, off, none⟩ = some (.int .u8 0)) (hs : Bytes W W.heap.size (some ⟨b, off + 1, none⟩) [c1, c2]) (hm : mOk m = true) (hok : slOk false (num [c1, c2] : Int) (0) 0 m = true) :
    Calls Try.prog 30 #[.slice (some ⟨b, off, none⟩) 3 (k + 3), .int .i64 m] W (GivesS W (0 :: c1 :: c2 :: []) m) := by
  have H := Lib.hid hm
  have hmm : 1 ≤ m ∧ m ≤ 65536 := by simpa [mOk] using hm
  obtain ⟨hm1, hm2⟩ := hmm
  have HG := Lib.hid (show gOkS (0 :: c1 :: c2 :: []) m = true by unfold gOkS; rw [hm]; exact hok)
  have HQ := Lib.hid (fun (w : World) A2 c2' => refRight_any false (num [c1, c2] : Int) (0) A2 0 c2' m (by unfold maxLen; omega) w)
  have HOK := Lib.hid hok
  have hn2 := num2_bd c1 c2
  have hn0 : (0 : Int) ≤ (num [c1, c2] : Int) := by omega
  have hnw : numW [c1, c2] = (num [c1, c2] : Int) := numW_le _ (by simp)
  have HSQ := Lib.hid (show rS (0 :: c1 :: c2 :: []) = (num [c1, c2] : Int) from rfl)
  generalize (num [c1, c2] : Int) = sq at hn2 hn0 hnw HSQ HQ HOK
  have N1 := Lib.hid (fun w h => refNumber_n (some ⟨b, off + 1, none⟩) 2 (k + 2) [c1, c2] w rfl h (by simp [maxLen]))
  have hb0 := below_alloc (Below.refl W.heap.size W) (.cells #[.bool false, .int .i64 0, .int .u64 0, .slice none 0 0] 25)
  have hbne : ¬ b = W.heap.size := by omega
  have hbne2 : ¬ W.heap.size = b := by omega
  have hblt : b < W.heap.size + 1 := by omega
  have hi1 : (3 : Int) ≤ (k : Int) + 3 := by omega
  have hi2 : (0 : Int) ≤ (k : Int) := by omega
  clear hok hm
  go_enter Try.func30, Try.ntmps30
  go_wp2_with fail
  go_region_held3 (fun w' => w'.cell? ⟨b, off, none⟩ = some (.int .u8 0))
    (go_keep)
    ((first
      | (go_at_call 56; refine (N1.out _ (by first | exact hs.later hb0 | exact hs.later (Below.drew hb0) | exact hs.later (below_alloc (Below.drew hb0) _) | exact hs.later (Below.drew (below_alloc hb0 _)))).mono ?_; rw [hnw]; rintro e w' ⟨rfl, rfl⟩)
      | fail))
  all_goals go_wp2_with fail
  all_goals (
    refine (HQ.out _ none 0).mono ?_
    rw [HOK.out]
    rintro e w3 ⟨rfl, rfl⟩
    go_wp2_with fail
    exact bodyPost_ret (v := .tuple #[.agg #[.bool false, .int .i64 sq, .int .u64 0, .slice none 0 0], .int .i64 0]) (by simp [results, Try.results30, go_sem]) rfl (gs_yes' H.out HG.out rfl HSQ.out rfl rfl (IsText.nil _) (by repeat (first | exact Below.refl _ _ | refine Below.drew ?_ | refine below_alloc ?_ _))))

set_option maxHeartbeats 8000000 in
theorem refGet_0ef (b off k : Nat) (c1 c2 : UInt8) (m : Int) (W : World) (hb : b < W.heap.size) (hx : W.cell? ⟨b, off, none⟩ = some (.int .u8 0)) (hs : Bytes W W.heap.size (some ⟨b, off + 1, none⟩) [c1, c2]) (hm : mOk m = true) (hok : slOk false (num [c1, c2] : Int) (0) 0 m = false) :
    Calls Try.prog 30 #[.slice (some ⟨b, off, none⟩) 3 (k + 3), .int .i64 m] W (GivesS W (0 :: c1 :: c2 :: []) m) := by
  have H := Lib.hid hm
  have hmm : 1 ≤ m ∧ m ≤ 65536 := by simpa [mOk] using hm
  obtain ⟨hm1, hm2⟩ := hmm
  have HG := Lib.hid (show gOkS (0 :: c1 :: c2 :: []) m = false by unfold gOkS; rw [hm]; exact hok)
  have HQ := Lib.hid (fun (w : World) A2 c2' => refRight_any false (num [c1, c2] : Int) (0) A2 0 c2' m (by unfold maxLen; omega) w)
  have HOK := Lib.hid hok
  have hn2 := num2_bd c1 c2
  have hn0 : (0 : Int) ≤ (num [c1, c2] : Int) := by omega
  have hnw : numW [c1, c2] = (num [c1, c2] : Int) := numW_le _ (by simp)
  have HSQ := Lib.hid (show rS (0 :: c1 :: c2 :: []) = (num [c1, c2] : Int) from rfl)
  generalize (num [c1, c2] : Int) = sq at hn2 hn0 hnw HSQ HQ HOK
  have N1 := Lib.hid (fun w h => refNumber_n (some ⟨b, off + 1, none⟩) 2 (k + 2) [c1, c2] w rfl h (by simp [maxLen]))
  have hb0 := below_alloc (Below.refl W.heap.size W) (.cells #[.bool false, .int .i64 0, .int .u64 0, .slice none 0 0] 25)
  have hbne : ¬ b = W.heap.size := by omega
  have hbne2 : ¬ W.heap.size = b := by omega
  have hblt : b < W.heap.size + 1 := by omega
  have hi1 : (3 : Int) ≤ (k : Int) + 3 := by omega
  have hi2 : (0 : Int) ≤ (k : Int) := by omega
  clear hok hm
  go_enter Try.func30, Try.ntmps30
  go_wp2_with fail
  go_region_held3 (fun w' => w'.cell? ⟨b, off, none⟩ = some (.int .u8 0))
    (go_keep)
    ((first
      | (go_at_call 56; refine (N1.out _ (by first | exact hs.later hb0 | exact hs.later (Below.drew hb0) | exact hs.later (below_alloc (Below.drew hb0) _) | exact hs.later (Below.drew (below_alloc hb0 _)))).mono ?_; rw [hnw]; rintro e w' ⟨rfl, rfl⟩)
      | fail))
  all_goals go_wp2_with fail
  all_goals (
    refine (HQ.out _ none 0).mono ?_
    rw [HOK.out]
    rintro e w3 ⟨rfl, rfl⟩
    go_wp2_with fail
    exact bodyPost_ret (v := .tuple #[.agg #[.bool false, .int .i64 0, .int .u64 0, .slice none 0 0], .int .i64 130]) (by simp [results, Try.results30, go_sem]) rfl (gs_no H.out HG.out (by repeat (first | exact Below.refl _ _ | refine Below.drew ?_ | refine below_alloc ?_ _))))

set_option maxHeartbeats 8000000 in
theorem refGet_1ey (b off k : Nat) (c1 c2 : UInt8) (r : List UInt8) (m : Int) (W : World) (hc : r.length ≤ k) (hb : b < W.heap.size) (hx : W.cell? ⟨b, off, none⟩ = some (.int .u8 1)) (hs : Bytes W W.heap.size (some ⟨b, off + 1, none⟩) [c1, c2]) (hr : Bytes W W.heap.size (some ⟨b, off + 3, none⟩) r) (hm : mOk m = true) (h8 : r.length = 8) (hok : slOk true (num [c1, c2] : Int) (numW r) 0 m = true) :
    Calls Try.prog 30 #[.slice (some ⟨b, off, none⟩) 11 (k + 3), .int .i64 m] W (GivesS W (1 :: c1 :: c2 :: r) m) := by
  have H := Lib.hid hm
  have hmm : 1 ≤ m ∧ m ≤ 65536 := by simpa [mOk] using hm
  obtain ⟨hm1, hm2⟩ := hmm
  have HG := Lib.hid (show gOkS (1 :: c1 :: c2 :: r) m = true by unfold gOkS rO rA rS rB rD; rw [hm]; simp only [h8]; exact hok)
  have HQ := Lib.hid (fun (w : World) A2 c2' => refRight_any true (num [c1, c2] : Int) (numW r) A2 0 c2' m (by unfold maxLen; omega) w)
  have HOK := Lib.hid hok
  have hn2 := num2_bd c1 c2
  have hn0 : (0 : Int) ≤ (num [c1, c2] : Int) := by omega
  have hnw : numW [c1, c2] = (num [c1, c2] : Int) := numW_le _ (by simp)
  have HSQ := Lib.hid (show rS (1 :: c1 :: c2 :: r) = (num [c1, c2] : Int) from rfl)
  generalize (num [c1, c2] : Int) = sq at hn2 hn0 hnw HSQ HQ HOK
  have N1 := Lib.hid (fun w h => refNumber_n (some ⟨b, off + 1, none⟩) 2 (k + 2) [c1, c2] w rfl h (by simp [maxLen]))
  have N2 := Lib.hid (fun w h => refNumber_n (some ⟨b, off + 3, none⟩) 8 k r w h8.symm h (by unfold maxLen; omega))
  have hnb := numW_bd r
  have HNR := Lib.hid (show rB (1 :: c1 :: c2 :: r) = numW r from rfl)
  generalize numW r = nr at N2 hnb HNR HQ HOK
  obtain ⟨hnb0, hnb1⟩ := hnb
  have hk8 : 8 ≤ k := by omega
  have hb0 := below_alloc (Below.refl W.heap.size W) (.cells #[.bool false, .int .i64 0, .int .u64 0, .slice none 0 0] 25)
  have hbne : ¬ b = W.heap.size := by omega
  have hbne2 : ¬ W.heap.size = b := by omega
  have hblt : b < W.heap.size + 1 := by omega
  have hi1 : (3 : Int) ≤ (k : Int) + 3 := by omega
  have hi2 : (0 : Int) ≤ (k : Int) := by omega
  clear hok hm
  go_enter Try.func30, Try.ntmps30
  go_wp2_with fail
  go_region_held3 (fun w' => w'.cell? ⟨b, off, none⟩ = some (.int .u8 1))
    (go_keep)
    ((first
      | (go_at_call 56; refine (N1.out _ (by first | exact hs.later hb0 | exact hs.later (Below.drew hb0) | exact hs.later (below_alloc (Below.drew hb0) _) | exact hs.later (Below.drew (below_alloc hb0 _)))).mono ?_; rw [hnw]; rintro e w' ⟨rfl, rfl⟩)
      | fail))
  all_goals go_wp2_with fail
  all_goals (
    refine (N2.out _ (by first | exact hr.later (below_alloc hb0 _) | exact hr.later (Below.drew (below_alloc hb0 _)) | exact hr.later (below_alloc (Below.drew hb0) _))).mono ?_
    rintro e w' ⟨rfl, rfl⟩
    go_wp2_with fail)
  all_goals (
    refine (HQ.out _ none 0).mono ?_
    rw [HOK.out]
    rintro e w3 ⟨rfl, rfl⟩
    go_wp2_with fail
    exact bodyPost_ret (v := .tuple #[.agg #[.bool true, .int .i64 sq, .int .u64 nr, .slice none 0 0], .int .i64 0]) (by simp [results, Try.results30, go_sem]) rfl (gs_yes' H.out HG.out rfl HSQ.out HNR.out rfl (IsText.nil _) (by repeat (first | exact Below.refl _ _ | refine Below.drew ?_ | refine below_alloc ?_ _))))

set_option maxHeartbeats 8000000 in
theorem refGet_1ef (b off k : Nat) (c1 c2 : UInt8) (r : List UInt8) (m : Int) (W : World) (hc : r.length ≤ k) (hb : b < W.heap.size) (hx : W.cell? ⟨b, off, none⟩ = some (.int .u8 1)) (hs : Bytes W W.heap.size (some ⟨b, off + 1, none⟩) [c1, c2]) (hr : Bytes W W.heap.size (some ⟨b, off + 3, none⟩) r) (hm : mOk m = true) (h8 : r.length = 8) (hok : slOk true (num [c1, c2] : Int) (numW r) 0 m = false) :
    Calls Try.prog 30 #[.slice (some ⟨b, off, none⟩) 11 (k + 3), .int .i64 m] W (GivesS W (1 :: c1 :: c2 :: r) m) := by
  have H := Lib.hid hm
  have hmm : 1 ≤ m ∧ m ≤ 65536 := by simpa [mOk] using hm
  obtain ⟨hm1, hm2⟩ := hmm
  have HG := Lib.hid (show gOkS (1 :: c1 :: c2 :: r) m = false by unfold gOkS rO rA rS rB rD; rw [hm]; simp only [h8]; exact hok)
  have HQ := Lib.hid (fun (w : World) A2 c2' => refRight_any true (num [c1, c2] : Int) (numW r) A2 0 c2' m (by unfold maxLen; omega) w)
  have HOK := Lib.hid hok
  have hn2 := num2_bd c1 c2
  have hn0 : (0 : Int) ≤ (num [c1, c2] : Int) := by omega
  have hnw : numW [c1, c2] = (num [c1, c2] : Int) := numW_le _ (by simp)
  have HSQ := Lib.hid (show rS (1 :: c1 :: c2 :: r) = (num [c1, c2] : Int) from rfl)
  generalize (num [c1, c2] : Int) = sq at hn2 hn0 hnw HSQ HQ HOK
  have N1 := Lib.hid (fun w h => refNumber_n (some ⟨b, off + 1, none⟩) 2 (k + 2) [c1, c2] w rfl h (by simp [maxLen]))
  have N2 := Lib.hid (fun w h => refNumber_n (some ⟨b, off + 3, none⟩) 8 k r w h8.symm h (by unfold maxLen; omega))
  have hnb := numW_bd r
  have HNR := Lib.hid (show rB (1 :: c1 :: c2 :: r) = numW r from rfl)
  generalize numW r = nr at N2 hnb HNR HQ HOK
  obtain ⟨hnb0, hnb1⟩ := hnb
  have hk8 : 8 ≤ k := by omega
  have hb0 := below_alloc (Below.refl W.heap.size W) (.cells #[.bool false, .int .i64 0, .int .u64 0, .slice none 0 0] 25)
  have hbne : ¬ b = W.heap.size := by omega
  have hbne2 : ¬ W.heap.size = b := by omega
  have hblt : b < W.heap.size + 1 := by omega
  have hi1 : (3 : Int) ≤ (k : Int) + 3 := by omega
  have hi2 : (0 : Int) ≤ (k : Int) := by omega
  clear hok hm
  go_enter Try.func30, Try.ntmps30
  go_wp2_with fail
  go_region_held3 (fun w' => w'.cell? ⟨b, off, none⟩ = some (.int .u8 1))
    (go_keep)
    ((first
      | (go_at_call 56; refine (N1.out _ (by first | exact hs.later hb0 | exact hs.later (Below.drew hb0) | exact hs.later (below_alloc (Below.drew hb0) _) | exact hs.later (Below.drew (below_alloc hb0 _)))).mono ?_; rw [hnw]; rintro e w' ⟨rfl, rfl⟩)
      | fail))
  all_goals go_wp2_with fail
  all_goals (
    refine (N2.out _ (by first | exact hr.later (below_alloc hb0 _) | exact hr.later (Below.drew (below_alloc hb0 _)) | exact hr.later (below_alloc (Below.drew hb0) _))).mono ?_
    rintro e w' ⟨rfl, rfl⟩
    go_wp2_with fail)
  all_goals (
    refine (HQ.out _ none 0).mono ?_
    rw [HOK.out]
    rintro e w3 ⟨rfl, rfl⟩
    go_wp2_with fail
    exact bodyPost_ret (v := .tuple #[.agg #[.bool false, .int .i64 0, .int .u64 0, .slice none 0 0], .int .i64 130]) (by simp [results, Try.results30, go_sem]) rfl (gs_no H.out HG.out (by repeat (first | exact Below.refl _ _ | refine Below.drew ?_ | refine below_alloc ?_ _))))

set_option maxHeartbeats 8000000 in
theorem refGet_0ny (b off k : Nat) (c1 c2 : UInt8) (r : List UInt8) (m : Int) (W : World) (hc : r.length ≤ k) (hl : r.length ≤ 140737488355000) (hb : b < W.heap.size) (hx : W.cell? ⟨b, off, none⟩ = some (.int .u8 0)) (hs : Bytes W W.heap.size (some ⟨b, off + 1, none⟩) [c1, c2]) (hr : Bytes W W.heap.size (some ⟨b, off + 3, none⟩) r) (hm : mOk m = true) (hne : 0 < r.length) (hok : slOk false (num [c1, c2] : Int) (0) r.length m = true) :
    Calls Try.prog 30 #[.slice (some ⟨b, off, none⟩) (r.length + 3) (k + 3), .int .i64 m] W (GivesS W (0 :: c1 :: c2 :: r) m) := by
  have H := Lib.hid hm
  have hmm : 1 ≤ m ∧ m ≤ 65536 := by simpa [mOk] using hm
  obtain ⟨hm1, hm2⟩ := hmm
  have HG := Lib.hid (show gOkS (0 :: c1 :: c2 :: r) m = true by unfold gOkS; rw [hm]; exact hok)
  have HQ := Lib.hid (fun (w : World) A2 c2' => refRight_any false (num [c1, c2] : Int) (0) A2 r.length c2' m (by unfold maxLen; omega) w)
  have HOK := Lib.hid hok
  have hn2 := num2_bd c1 c2
  have hn0 : (0 : Int) ≤ (num [c1, c2] : Int) := by omega
  have hnw : numW [c1, c2] = (num [c1, c2] : Int) := numW_le _ (by simp)
  have HSQ := Lib.hid (show rS (0 :: c1 :: c2 :: r) = (num [c1, c2] : Int) from rfl)
  generalize (num [c1, c2] : Int) = sq at hn2 hn0 hnw HSQ HQ HOK
  have N1 := Lib.hid (fun w h => refNumber_n (some ⟨b, off + 1, none⟩) 2 (k + 2) [c1, c2] w rfl h (by simp [maxLen]))
  have N2 := Lib.hid (fun w h => Pkt.Copy_any (some ⟨b, off + 3, none⟩) r.length k r w rfl h (by omega))
  have hlt3 : (3 : Int) < (r.length : Int) + 3 := by omega
  have hge3 : ¬ ((r.length : Int) + 3 < 3) := by omega
  have hk0 : ¬ k = 0 := by omega
  have hrl0 : (0 : Int) < (r.length : Int) + 3 := by omega
  have hrl1 : (3 : Int) ≤ (r.length : Int) + 3 := by omega
  have hrl2 : (r.length : Int) ≤ (k : Int) := by omega
  have hb0 := below_alloc (Below.refl W.heap.size W) (.cells #[.bool false, .int .i64 0, .int .u64 0, .slice none 0 0] 25)
  have hbne : ¬ b = W.heap.size := by omega
  have hbne2 : ¬ W.heap.size = b := by omega
  have hblt : b < W.heap.size + 1 := by omega
  have hi1 : (3 : Int) ≤ (k : Int) + 3 := by omega
  have hi2 : (0 : Int) ≤ (k : Int) := by omega
  clear hok hm
  go_enter Try.func30, Try.ntmps30
  go_wp2_with fail
  go_region_held3 (fun w' => w'.cell? ⟨b, off, none⟩ = some (.int .u8 0))
    (go_keep)
    ((first
      | (go_at_call 56; refine (N1.out _ (by first | exact hs.later hb0 | exact hs.later (Below.drew hb0) | exact hs.later (below_alloc (Below.drew hb0) _) | exact hs.later (Below.drew (below_alloc hb0 _)))).mono ?_; rw [hnw]; rintro e w' ⟨rfl, rfl⟩)
      | fail))
  all_goals go_wp2_with fail
  all_goals (
    refine (N2.out _ (by first | exact hr.later (below_alloc hb0 _) | exact hr.later (Below.drew (below_alloc hb0 _)) | exact hr.later (below_alloc (Below.drew hb0) _))).mono ?_
    rintro e w2 ⟨v2, rfl, ho2, hb2⟩
    obtain ⟨A2, c2', rfl, _, _, _⟩ := ho2.shape
    have hbw : Below (W.heap.size + 2) ((W.alloc (.cells #[.bool false, .int .i64 0, .int .u64 0, .slice none 0 0] 25)).alloc (.cells #[.bool false, .int .i64 sq, .int .u64 0, .slice none 0 0] 25)) w2 := by
      have h0 := hb2
      simp at h0
      exact ⟨h0.os, h0.tape, h0.output, h0.size, h0.block⟩
    have ho3 : Own 5 w2 (W.heap.size + 2) (.slice A2 r.length c2') r := by simpa using ho2
    have HBW := Lib.hid hbw
    have HO := Lib.hid ho3
    obtain ⟨hcl, hf⟩ := bcell hbw
    have hz : W.heap.size + 2 ≤ w2.heap.size := by have := hbw.size; simp at this; omega
    have hc0 : w2.cell? ⟨W.heap.size, 0, none⟩ = some (.bool false) := by rw [hcl _ _ (by omega)]; simp [go_sem]
    have hc1 : w2.cell? ⟨W.heap.size, 1, none⟩ = some (.int .i64 0) := by rw [hcl _ _ (by omega)]; simp [go_sem]
    have hc2 : w2.cell? ⟨W.heap.size, 2, none⟩ = some (.int .u64 0) := by rw [hcl _ _ (by omega)]; simp [go_sem]
    have hc3 : w2.cell? ⟨W.heap.size, 3, none⟩ = some (.slice none 0 0) := by rw [hcl _ _ (by omega)]; simp [go_sem]
    have he0 : w2.cell? ⟨W.heap.size + 1, 0, none⟩ = some (.bool false) := by rw [hcl _ _ (by omega)]; simp [go_sem]
    have he1 : w2.cell? ⟨W.heap.size + 1, 1, none⟩ = some (.int .i64 sq) := by rw [hcl _ _ (by omega)]; simp [go_sem]
    have he2 : w2.cell? ⟨W.heap.size + 1, 2, none⟩ = some (.int .u64 0) := by rw [hcl _ _ (by omega)]; simp [go_sem]
    have he3 : w2.cell? ⟨W.heap.size + 1, 3, none⟩ = some (.slice none 0 0) := by rw [hcl _ _ (by omega)]; simp [go_sem]
    have hj0 : w2.frozen? ⟨W.heap.size, 0, none⟩ = false := by rw [hf _ _ (by omega)]; simp [go_sem]
    have hj1 : w2.frozen? ⟨W.heap.size, 1, none⟩ = false := by rw [hf _ _ (by omega)]; simp [go_sem]
    have hj2 : w2.frozen? ⟨W.heap.size, 2, none⟩ = false := by rw [hf _ _ (by omega)]; simp [go_sem]
    have hj3 : w2.frozen? ⟨W.heap.size, 3, none⟩ = false := by rw [hf _ _ (by omega)]; simp [go_sem]
    have HB1 := Lib.hid (show Below W.heap.size W w2 from (below_alloc (below_alloc (Below.refl W.heap.size W) _) _).trans (hbw.mono (by omega)))
    clear hb2 ho2 ho3 hbw hr hs hx
    go_wp2_with fail
    refine (HQ.out _ A2 c2').mono ?_
    rw [HOK.out]
    rintro e w3 ⟨rfl, hw3⟩
    have hb3 : Below (w2.setCell ⟨W.heap.size + 1, 3, none⟩ (.slice A2 r.length c2')).heap.size (w2.setCell ⟨W.heap.size + 1, 3, none⟩ (.slice A2 r.length c2')) w3 := by rw [hw3]; exact below_alloc (Below.refl _ _) _
    have hm3 : Mid (W.heap.size + 2) w2 w3 := by rw [hw3]; exact Mid.alloc ((Mid.refl _ _).setCell (p := ⟨W.heap.size + 1, 3, none⟩) (by simp) _) _
    have hb4 : Below W.heap.size W w3 := by rw [hw3]; exact below_alloc (HB1.out.setCell (p := ⟨W.heap.size + 1, 3, none⟩) (by simp) _) _
    clear hw3
    have HB3 := Lib.hid hb4
    have HM3 := Lib.hid hm3
    obtain ⟨hcl3, hf3⟩ := bcell hb3
    have hd0 : w3.cell? ⟨W.heap.size, 0, none⟩ = some (.bool false) := by rw [hcl3 _ _ (by simp [World.setCell]; omega)]; simp [go_sem, hc0]
    have hd1 : w3.cell? ⟨W.heap.size, 1, none⟩ = some (.int .i64 0) := by rw [hcl3 _ _ (by simp [World.setCell]; omega)]; simp [go_sem, hc1]
    have hd2 : w3.cell? ⟨W.heap.size, 2, none⟩ = some (.int .u64 0) := by rw [hcl3 _ _ (by simp [World.setCell]; omega)]; simp [go_sem, hc2]
    have hd3 : w3.cell? ⟨W.heap.size, 3, none⟩ = some (.slice none 0 0) := by rw [hcl3 _ _ (by simp [World.setCell]; omega)]; simp [go_sem, hc3]
    have hg0 : w3.cell? ⟨W.heap.size + 1, 0, none⟩ = some (.bool false) := by rw [hcl3 _ _ (by simp [World.setCell]; omega)]; simp [go_sem, he0]
    have hg1 : w3.cell? ⟨W.heap.size + 1, 1, none⟩ = some (.int .i64 sq) := by rw [hcl3 _ _ (by simp [World.setCell]; omega)]; simp [go_sem, he1]
    have hg2 : w3.cell? ⟨W.heap.size + 1, 2, none⟩ = some (.int .u64 0) := by rw [hcl3 _ _ (by simp [World.setCell]; omega)]; simp [go_sem, he2]
    have hg3 : w3.cell? ⟨W.heap.size + 1, 3, none⟩ = some ((.slice A2 r.length c2')) := by rw [hcl3 _ _ (by simp [World.setCell]; omega)]; simp [go_sem, he3]
    have hk0 : w3.frozen? ⟨W.heap.size, 0, none⟩ = false := by rw [hf3 _ _ (by simp [World.setCell]; omega)]; simp [go_sem, hj0]
    have hk1 : w3.frozen? ⟨W.heap.size, 1, none⟩ = false := by rw [hf3 _ _ (by simp [World.setCell]; omega)]; simp [go_sem, hj1]
    have hk2 : w3.frozen? ⟨W.heap.size, 2, none⟩ = false := by rw [hf3 _ _ (by simp [World.setCell]; omega)]; simp [go_sem, hj2]
    have hk3 : w3.frozen? ⟨W.heap.size, 3, none⟩ = false := by rw [hf3 _ _ (by simp [World.setCell]; omega)]; simp [go_sem, hj3]
    clear hb3 hm3 hb4 hcl3 hf3 hcl hf he0 hc0 hj0 he1 hc1 hj1 he2 hc2 hj2 he3 hc3 hj3
    go_wp2_with fail
    have HO' := HO.out
    exact bodyPost_ret (v := .tuple #[.agg #[.bool false, .int .i64 sq, .int .u64 0, .slice A2 r.length c2'], .int .i64 0]) (by simp [results, Try.results30, go_sem, hd0, hd1, hd2, hd3]) rfl (gs_yes' H.out HG.out rfl HSQ.out rfl rfl ((own_mid HO' ((((HM3.out.setCell (p := ⟨W.heap.size, 0, none⟩) (by simp) _).setCell (p := ⟨W.heap.size, 1, none⟩) (by simp) _).setCell (p := ⟨W.heap.size, 2, none⟩) (by simp) _).setCell (p := ⟨W.heap.size, 3, none⟩) (by simp) _)).text) (((((HB3.out.setCell (p := ⟨W.heap.size, 0, none⟩) (Nat.le_refl _) _).setCell (p := ⟨W.heap.size, 1, none⟩) (Nat.le_refl _) _).setCell (p := ⟨W.heap.size, 2, none⟩) (Nat.le_refl _) _).setCell (p := ⟨W.heap.size, 3, none⟩) (Nat.le_refl _) _))))

set_option maxHeartbeats 8000000 in
theorem refGet_0nf (b off k : Nat) (c1 c2 : UInt8) (r : List UInt8) (m : Int) (W : World) (hc : r.length ≤ k) (hl : r.length ≤ 140737488355000) (hb : b < W.heap.size) (hx : W.cell? ⟨b, off, none⟩ = some (.int .u8 0)) (hs : Bytes W W.heap.size (some ⟨b, off + 1, none⟩) [c1, c2]) (hr : Bytes W W.heap.size (some ⟨b, off + 3, none⟩) r) (hm : mOk m = true) (hne : 0 < r.length) (hok : slOk false (num [c1, c2] : Int) (0) r.length m = false) :
    Calls Try.prog 30 #[.slice (some ⟨b, off, none⟩) (r.length + 3) (k + 3), .int .i64 m] W (GivesS W (0 :: c1 :: c2 :: r) m) := by
  have H := Lib.hid hm
  have hmm : 1 ≤ m ∧ m ≤ 65536 := by simpa [mOk] using hm
  obtain ⟨hm1, hm2⟩ := hmm
  have HG := Lib.hid (show gOkS (0 :: c1 :: c2 :: r) m = false by unfold gOkS; rw [hm]; exact hok)
  have HQ := Lib.hid (fun (w : World) A2 c2' => refRight_any false (num [c1, c2] : Int) (0) A2 r.length c2' m (by unfold maxLen; omega) w)
  have HOK := Lib.hid hok
  have hn2 := num2_bd c1 c2
  have hn0 : (0 : Int) ≤ (num [c1, c2] : Int) := by omega
  have hnw : numW [c1, c2] = (num [c1, c2] : Int) := numW_le _ (by simp)
  have HSQ := Lib.hid (show rS (0 :: c1 :: c2 :: r) = (num [c1, c2] : Int) from rfl)
  generalize (num [c1, c2] : Int) = sq at hn2 hn0 hnw HSQ HQ HOK
  have N1 := Lib.hid (fun w h => refNumber_n (some ⟨b, off + 1, none⟩) 2 (k + 2) [c1, c2] w rfl h (by simp [maxLen]))
  have N2 := Lib.hid (fun w h => Pkt.Copy_any (some ⟨b, off + 3, none⟩) r.length k r w rfl h (by omega))
  have hlt3 : (3 : Int) < (r.length : Int) + 3 := by omega
  have hge3 : ¬ ((r.length : Int) + 3 < 3) := by omega
  have hk0 : ¬ k = 0 := by omega
  have hrl0 : (0 : Int) < (r.length : Int) + 3 := by omega
  have hrl1 : (3 : Int) ≤ (r.length : Int) + 3 := by omega
  have hrl2 : (r.length : Int) ≤ (k : Int) := by omega
  have hb0 := below_alloc (Below.refl W.heap.size W) (.cells #[.bool false, .int .i64 0, .int .u64 0, .slice none 0 0] 25)
  have hbne : ¬ b = W.heap.size := by omega
  have hbne2 : ¬ W.heap.size = b := by omega
  have hblt : b < W.heap.size + 1 := by omega
  have hi1 : (3 : Int) ≤ (k : Int) + 3 := by omega
  have hi2 : (0 : Int) ≤ (k : Int) := by omega
  clear hok hm
  go_enter Try.func30, Try.ntmps30
  go_wp2_with fail
  go_region_held3 (fun w' => w'.cell? ⟨b, off, none⟩ = some (.int .u8 0))
    (go_keep)
    ((first
      | (go_at_call 56; refine (N1.out _ (by first | exact hs.later hb0 | exact hs.later (Below.drew hb0) | exact hs.later (below_alloc (Below.drew hb0) _) | exact hs.later (Below.drew (below_alloc hb0 _)))).mono ?_; rw [hnw]; rintro e w' ⟨rfl, rfl⟩)
      | fail))
  all_goals go_wp2_with fail
  all_goals (
    refine (N2.out _ (by first | exact hr.later (below_alloc hb0 _) | exact hr.later (Below.drew (below_alloc hb0 _)) | exact hr.later (below_alloc (Below.drew hb0) _))).mono ?_
    rintro e w2 ⟨v2, rfl, ho2, hb2⟩
    obtain ⟨A2, c2', rfl, _, _, _⟩ := ho2.shape
    have hbw : Below (W.heap.size + 2) ((W.alloc (.cells #[.bool false, .int .i64 0, .int .u64 0, .slice none 0 0] 25)).alloc (.cells #[.bool false, .int .i64 sq, .int .u64 0, .slice none 0 0] 25)) w2 := by
      have h0 := hb2
      simp at h0
      exact ⟨h0.os, h0.tape, h0.output, h0.size, h0.block⟩
    have ho3 : Own 5 w2 (W.heap.size + 2) (.slice A2 r.length c2') r := by simpa using ho2
    have HBW := Lib.hid hbw
    have HO := Lib.hid ho3
    obtain ⟨hcl, hf⟩ := bcell hbw
    have hz : W.heap.size + 2 ≤ w2.heap.size := by have := hbw.size; simp at this; omega
    have hc0 : w2.cell? ⟨W.heap.size, 0, none⟩ = some (.bool false) := by rw [hcl _ _ (by omega)]; simp [go_sem]
    have hc1 : w2.cell? ⟨W.heap.size, 1, none⟩ = some (.int .i64 0) := by rw [hcl _ _ (by omega)]; simp [go_sem]
    have hc2 : w2.cell? ⟨W.heap.size, 2, none⟩ = some (.int .u64 0) := by rw [hcl _ _ (by omega)]; simp [go_sem]
    have hc3 : w2.cell? ⟨W.heap.size, 3, none⟩ = some (.slice none 0 0) := by rw [hcl _ _ (by omega)]; simp [go_sem]
    have he0 : w2.cell? ⟨W.heap.size + 1, 0, none⟩ = some (.bool false) := by rw [hcl _ _ (by omega)]; simp [go_sem]
    have he1 : w2.cell? ⟨W.heap.size + 1, 1, none⟩ = some (.int .i64 sq) := by rw [hcl _ _ (by omega)]; simp [go_sem]
    have he2 : w2.cell? ⟨W.heap.size + 1, 2, none⟩ = some (.int .u64 0) := by rw [hcl _ _ (by omega)]; simp [go_sem]
    have he3 : w2.cell? ⟨W.heap.size + 1, 3, none⟩ = some (.slice none 0 0) := by rw [hcl _ _ (by omega)]; simp [go_sem]
    have hj0 : w2.frozen? ⟨W.heap.size, 0, none⟩ = false := by rw [hf _ _ (by omega)]; simp [go_sem]
    have hj1 : w2.frozen? ⟨W.heap.size, 1, none⟩ = false := by rw [hf _ _ (by omega)]; simp [go_sem]
    have hj2 : w2.frozen? ⟨W.heap.size, 2, none⟩ = false := by rw [hf _ _ (by omega)]; simp [go_sem]
    have hj3 : w2.frozen? ⟨W.heap.size, 3, none⟩ = false := by rw [hf _ _ (by omega)]; simp [go_sem]
    have HB1 := Lib.hid (show Below W.heap.size W w2 from (below_alloc (below_alloc (Below.refl W.heap.size W) _) _).trans (hbw.mono (by omega)))
    clear hb2 ho2 ho3 hbw hr hs hx
    go_wp2_with fail
    refine (HQ.out _ A2 c2').mono ?_
    rw [HOK.out]
    rintro e w3 ⟨rfl, hw3⟩
    have hb3 : Below (w2.setCell ⟨W.heap.size + 1, 3, none⟩ (.slice A2 r.length c2')).heap.size (w2.setCell ⟨W.heap.size + 1, 3, none⟩ (.slice A2 r.length c2')) w3 := by rw [hw3]; exact below_alloc (Below.refl _ _) _
    have hm3 : Mid (W.heap.size + 2) w2 w3 := by rw [hw3]; exact Mid.alloc ((Mid.refl _ _).setCell (p := ⟨W.heap.size + 1, 3, none⟩) (by simp) _) _
    have hb4 : Below W.heap.size W w3 := by rw [hw3]; exact below_alloc (HB1.out.setCell (p := ⟨W.heap.size + 1, 3, none⟩) (by simp) _) _
    clear hw3
    have HB3 := Lib.hid hb4
    have HM3 := Lib.hid hm3
    obtain ⟨hcl3, hf3⟩ := bcell hb3
    have hd0 : w3.cell? ⟨W.heap.size, 0, none⟩ = some (.bool false) := by rw [hcl3 _ _ (by simp [World.setCell]; omega)]; simp [go_sem, hc0]
    have hd1 : w3.cell? ⟨W.heap.size, 1, none⟩ = some (.int .i64 0) := by rw [hcl3 _ _ (by simp [World.setCell]; omega)]; simp [go_sem, hc1]
    have hd2 : w3.cell? ⟨W.heap.size, 2, none⟩ = some (.int .u64 0) := by rw [hcl3 _ _ (by simp [World.setCell]; omega)]; simp [go_sem, hc2]
    have hd3 : w3.cell? ⟨W.heap.size, 3, none⟩ = some (.slice none 0 0) := by rw [hcl3 _ _ (by simp [World.setCell]; omega)]; simp [go_sem, hc3]
    have hg0 : w3.cell? ⟨W.heap.size + 1, 0, none⟩ = some (.bool false) := by rw [hcl3 _ _ (by simp [World.setCell]; omega)]; simp [go_sem, he0]
    have hg1 : w3.cell? ⟨W.heap.size + 1, 1, none⟩ = some (.int .i64 sq) := by rw [hcl3 _ _ (by simp [World.setCell]; omega)]; simp [go_sem, he1]
    have hg2 : w3.cell? ⟨W.heap.size + 1, 2, none⟩ = some (.int .u64 0) := by rw [hcl3 _ _ (by simp [World.setCell]; omega)]; simp [go_sem, he2]
    have hg3 : w3.cell? ⟨W.heap.size + 1, 3, none⟩ = some ((.slice A2 r.length c2')) := by rw [hcl3 _ _ (by simp [World.setCell]; omega)]; simp [go_sem, he3]
    have hk0 : w3.frozen? ⟨W.heap.size, 0, none⟩ = false := by rw [hf3 _ _ (by simp [World.setCell]; omega)]; simp [go_sem, hj0]
    have hk1 : w3.frozen? ⟨W.heap.size, 1, none⟩ = false := by rw [hf3 _ _ (by simp [World.setCell]; omega)]; simp [go_sem, hj1]
    have hk2 : w3.frozen? ⟨W.heap.size, 2, none⟩ = false := by rw [hf3 _ _ (by simp [World.setCell]; omega)]; simp [go_sem, hj2]
    have hk3 : w3.frozen? ⟨W.heap.size, 3, none⟩ = false := by rw [hf3 _ _ (by simp [World.setCell]; omega)]; simp [go_sem, hj3]
    clear hb3 hm3 hb4 hcl3 hf3 hcl hf he0 hc0 hj0 he1 hc1 hj1 he2 hc2 hj2 he3 hc3 hj3
    go_wp2_with fail
    have HO' := HO.out
    exact bodyPost_ret (v := .tuple #[.agg #[.bool false, .int .i64 0, .int .u64 0, .slice none 0 0], .int .i64 130]) (by simp [results, Try.results30, go_sem, hd0, hd1, hd2, hd3]) rfl (gs_no H.out HG.out (((((HB3.out.setCell (p := ⟨W.heap.size, 0, none⟩) (Nat.le_refl _) _).setCell (p := ⟨W.heap.size, 1, none⟩) (Nat.le_refl _) _).setCell (p := ⟨W.heap.size, 2, none⟩) (Nat.le_refl _) _).setCell (p := ⟨W.heap.size, 3, none⟩) (Nat.le_refl _) _))))

set_option maxHeartbeats 2000000 in
theorem refGet_bad (c0 : UInt8) (b off n k : Nat) (m : Int) (l : List UInt8) (W : World) (hb : b < W.heap.size) (hx : W.cell? ⟨b, off, none⟩ = some (.int .u8 (c0.toNat : Int))) (h3 : 3 ≤ n) (hm : mOk m = true) (hg : gOkS l m = false) (hc : 2 ≤ c0.toNat ∨ (c0.toNat = 1 ∧ n ≠ 11)) :
    Calls Try.prog 30 #[.slice (some ⟨b, off, none⟩) n k, .int .i64 m] W (GivesS W l m) := by
  have H := Lib.hid hm
  have HG := Lib.hid hg
  have hmm : 1 ≤ m ∧ m ≤ 65536 := by simpa [mOk] using hm
  obtain ⟨hm1, hm2⟩ := hmm
  have hb0 := below_alloc (Below.refl W.heap.size W) (.cells #[.bool false, .int .i64 0, .int .u64 0, .slice none 0 0] 25)
  have hr := c0.toNat_lt
  have hn0 : ¬ ((n : Int) < 3) := by omega
  have hn1 : (0 : Int) < (n : Int) := by omega
  have hbne : ¬ b = W.heap.size := by omega
  have hbne2 : ¬ W.heap.size = b := by omega
  have hblt : b < W.heap.size + 1 := by omega
  clear hm hg
  rcases hc with hc | ⟨hc, hn⟩
  · have hc1 : (1 : Int) < (c0.toNat : Int) := by omega
    have hc2 : (c0.toNat : Int) ≤ 255 := by omega
    clear hr hc
    generalize (c0.toNat : Int) = x at hx hc1 hc2
    go_enter Try.func30, Try.ntmps30
    go_wp2_with fail
    exact bodyPost_ret (v := .tuple #[.agg #[.bool false, .int .i64 0, .int .u64 0, .slice none 0 0], .int .i64 130]) (by simp [results, Try.results30, go_sem]) rfl (gs_no H.out HG.out hb0)
  · replace hx : W.cell? ⟨b, off, none⟩ = some (.int .u8 1) := by rw [hc] at hx; exact hx
    have hne : ((n : Int) != 11) = true := by rw [bne_iff_ne]; omega
    clear hr hc hn
    go_enter Try.func30, Try.ntmps30
    go_wp2_with fail
    exact bodyPost_ret (v := .tuple #[.agg #[.bool false, .int .i64 0, .int .u64 0, .slice none 0 0], .int .i64 130]) (by simp [results, Try.results30, go_sem]) rfl (gs_no H.out HG.out hb0)

set_option maxHeartbeats 2000000 in
/-- the document's Get -/
theorem refGet_any (A : Option Addr) (cap : Nat) (l : List UInt8) (m : Int) (W : World) (hA : Bytes W W.heap.size A l) (hc : l.length ≤ cap) (hl : l.length ≤ 140737488355000) :
    Calls Try.prog 30 #[.slice A l.length cap, .int .i64 m] W (GivesS W l m) := by
  have hb0 := below_alloc (Below.refl W.heap.size W) (.cells #[.bool false, .int .i64 0, .int .u64 0, .slice none 0 0] 25)
  cases h : mOk m with
  | false =>
    have hx : m < 1 ∨ (¬ m < 1 ∧ 65536 < m) := by simp only [mOk, decide_eq_false_iff_not] at h; omega
    have H := Lib.hid h
    clear h
    rcases hx with hx | ⟨hx, hy⟩
    all_goals (
      go_enter Try.func30, Try.ntmps30
      go_wp2_with fail
      exact bodyPost_ret (v := .tuple #[.agg #[.bool false, .int .i64 0, .int .u64 0, .slice none 0 0], .int .i64 1]) (by simp [results, Try.results30, go_sem]) rfl (gs_arg H.out hb0))
  | true =>
    by_cases h3 : 3 ≤ l.length
    · match l, hA, hc, hl, h3 with
      | c0 :: c1 :: c2 :: r, hA, hc, hl, _ =>
        obtain ⟨b, off, rfl, hb, hx⟩ := hA.at_ (k := 0) (by simp)
        have hs : Bytes W W.heap.size (some ⟨b, off + 1, none⟩) [c1, c2] := (hA.drop (k := 1) (by simp)).take (k := 2) (by simp)
        have hr : Bytes W W.heap.size (some ⟨b, off + 3, none⟩) r := hA.drop (k := 3) (by simp)
        have hx : W.cell? ⟨b, off, none⟩ = some (.int .u8 (c0.toNat : Int)) := hx
        simp only [List.length_cons] at hc hl
        obtain ⟨k, rfl⟩ : ∃ k, cap = k + 3 := ⟨cap - 3, by omega⟩
        have hlt := c0.toNat_lt
        rw [show (c0 :: c1 :: c2 :: r).length = r.length + 3 from rfl]
        by_cases h0 : c0 = 0
        · subst h0
          rcases Nat.eq_zero_or_pos r.length with hz | hz
          · obtain rfl : r = [] := List.eq_nil_of_length_eq_zero hz
            cases hok : slOk false (num [c1, c2] : Int) 0 0 m with
            | true => exact refGet_0ey b off k c1 c2 m W hb hx hs h hok
            | false => exact refGet_0ef b off k c1 c2 m W hb hx hs h hok
          · cases hok : slOk false (num [c1, c2] : Int) 0 r.length m with
            | true => exact refGet_0ny b off k c1 c2 r m W (by omega) (by omega) hb hx hs hr h hz hok
            | false => exact refGet_0nf b off k c1 c2 r m W (by omega) (by omega) hb hx hs hr h hz hok
        · have hn0 : c0.toNat ≠ 0 := by intro e; apply h0; rw [← UInt8.toNat_inj]; simpa using e
          by_cases h1 : c0 = 1
          · subst h1
            by_cases h8 : r.length = 8
            · rw [show r.length + 3 = 11 by omega]
              cases hok : slOk true (num [c1, c2] : Int) (numW r) 0 m with
              | true => exact refGet_1ey b off k c1 c2 r m W (by omega) hb hx hs hr h h8 hok
              | false => exact refGet_1ef b off k c1 c2 r m W (by omega) hb hx hs hr h h8 hok
            · refine refGet_bad 1 b off _ _ m _ W hb hx (by omega) h ?_ (.inr ⟨rfl, by omega⟩)
              have hro : rO (1 :: c1 :: c2 :: r) = false := by
                show ((1 : UInt8) == 0 || ((1 : UInt8) == 1 && r.length == 8)) = false
                rw [show (r.length == 8) = false by rw [beq_eq_false_iff_ne]; exact h8]
                rfl
              unfold gOkS
              rw [hro, h]
              rfl
          · have hn1 : c0.toNat ≠ 1 := by intro e; apply h1; rw [← UInt8.toNat_inj]; simpa using e
            refine refGet_bad c0 b off _ _ m _ W hb hx (by omega) h ?_ (.inl (by omega))
            unfold gOkS rO
            simp only
            rw [show (c0 == 0) = false by rw [beq_eq_false_iff_ne]; exact h0, show (c0 == 1) = false by rw [beq_eq_false_iff_ne]; exact h1, h]
            rfl
    · have hg : gOkS l m = false := by
        match l, h3 with
        | [], _ => unfold gOkS rO; rw [h]; rfl
        | [_], _ => unfold gOkS rO; rw [h]; rfl
        | [_, _], _ => unfold gOkS rO; rw [h]; rfl
        | _ :: _ :: _ :: _, h3 => simp at h3
      have H := Lib.hid h
      have HG := Lib.hid hg
      have hmm : 1 ≤ m ∧ m ≤ 65536 := by simpa [mOk] using h
      obtain ⟨hm1, hm2⟩ := hmm
      have h3' : (l.length : Int) < 3 := by omega
      clear h hg
      go_enter Try.func30, Try.ntmps30
      go_wp2_with fail
      exact bodyPost_ret (v := .tuple #[.agg #[.bool false, .int .i64 0, .int .u64 0, .slice none 0 0], .int .i64 130]) (by simp [results, Try.results30, go_sem]) rfl (gs_no H.out HG.out hb0)

end Go.Proofs.Ytonjdkankegdaaa.Slide
