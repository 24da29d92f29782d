
/- Layer 13 (probe): the document's Get, the other headers. -/
import Derived.Test.YtonjdkankegdaaaProbeH
namespace Go.Proofs.Ytonjdkankegdaaa.Probe
open Go.RowKit Go.Proofs.Ytonjdkankegdaaa.Mem Go.Proofs.Ytonjdkankegdaaa.Oct Go.Proofs.Ytonjdkankegdaaa.Pkt

set_option maxHeartbeats 4000000 in
theorem refGet_0 (b off cap : Nat) (r : List UInt8) (W : World) (hc : r.length + 1 ≤ cap + 1) (_ : cap + 1 ≤ maxLen) (hl : r.length + 1 ≤ 140737488355328) (hb : b < W.heap.size) (hx : W.cell? ⟨b, off, none⟩ = some (.int .u8 0)) (hbt : Bytes W W.heap.size (some ⟨b, off + 1, none⟩) r) :
    Calls Try.prog 26 #[.slice (some ⟨b, off, none⟩) (r.length + 1) (cap + 1)] W (GivesH W (0) (0) r) := by
  have hrl : r.length ≤ maxLen := by unfold maxLen; omega
  rcases Nat.eq_zero_or_pos r.length with h0 | h0
  · obtain rfl : r = [] := List.eq_nil_of_length_eq_zero h0
    clear hbt h0
    cases hP : prOk (0) (0) 0 with
    | false =>
      have HP := Lib.hid hP
      have HP' := Lib.hid (show prOk (0) (0) ([] : List UInt8).length = false from hP)
      clear hP
      go_enter Try.func26, Try.ntmps26
      go_wp2_with fail
      refine (refRight_any (0) (0) none 0 0 (by simp [maxLen]) _).mono ?_
      rw [HP.out]
      rintro e w3 ⟨rfl, rfl⟩
      go_wp2
      exact bodyPost_ret (v := .tuple #[.agg #[.int .i64 (0), .int .i64 (0), .slice none 0 0], .int .i64 130]) (by simp [results, Try.results26, go_sem]) rfl (gh_no HP'.out (below_alloc (below_alloc (below_alloc (Below.refl _ _) _) _) _))
    | true =>
      have HP := Lib.hid hP
      have HP' := Lib.hid (show prOk (0) (0) ([] : List UInt8).length = true from hP)
      clear hP
      go_enter Try.func26, Try.ntmps26
      go_wp2_with fail
      refine (refRight_any (0) (0) none 0 0 (by simp [maxLen]) _).mono ?_
      rw [HP.out]
      rintro e w3 ⟨rfl, rfl⟩
      go_wp2
      exact bodyPost_ret (v := .tuple #[.agg #[.int .i64 (0), .int .i64 (0), .slice none 0 0], .int .i64 0]) (by simp [results, Try.results26, go_sem]) rfl (gh_yes HP'.out (IsText.nil _) (below_alloc (below_alloc (below_alloc (Below.refl _ _) _) _) _))
  · have h1 : (1 : Int) < (r.length : Int) + 1 := by omega
    clear h0
    cases hP : prOk (0) (0) r.length with
    | false =>
      have HP := Lib.hid hP; clear hP
      go_enter Try.func26, Try.ntmps26
      go_wp2_with fail
      refine (refCopy_n _ _ _ r _ rfl (hbt.later (below_alloc (below_alloc (Below.refl _ _) _) _)) (by omega)).mono ?_
      rintro e w2 ⟨v2, rfl, ho2, hb2⟩
      obtain ⟨A2, c2, rfl, _, _, _⟩ := ho2.shape
      have HBL := Lib.hid hb2
      have HO := Lib.hid ho2
      obtain ⟨hcl, hf⟩ := bcell hb2
      have hz : W.heap.size + 2 ≤ w2.heap.size := by have := hb2.size; simp at this; omega
      have hc0 : w2.cell? ⟨W.heap.size, 0, none⟩ = some (.int .i64 0) := by rw [hcl _ _ (by simp; omega)]; simp [go_sem, World.cell?_alloc_past, World.cell?_alloc_at]
      have hc1 : w2.cell? ⟨W.heap.size, 1, none⟩ = some (.int .i64 0) := by rw [hcl _ _ (by simp; omega)]; simp [go_sem, World.cell?_alloc_past, World.cell?_alloc_at]
      have hc2 : w2.cell? ⟨W.heap.size, 2, none⟩ = some (.slice none 0 0) := by rw [hcl _ _ (by simp; omega)]; simp [go_sem, World.cell?_alloc_past, World.cell?_alloc_at]
      clear hb2 ho2 hbt hx hb
      go_wp2_with fail
      refine (refRight_any (0) (0) A2 r.length c2 hrl _).mono ?_
      rw [HP.out]
      rintro e w3 ⟨rfl, hw3⟩
      have hb3 : Below (w2.setCell ⟨W.heap.size + 1, 2, none⟩ (.slice A2 r.length c2)).heap.size (w2.setCell ⟨W.heap.size + 1, 2, none⟩ (.slice A2 r.length c2)) w3 := by rw [hw3]; exact below_alloc (Below.refl _ _) _
      have hm3 : Mid (W.heap.size + 2) w2 w3 := by rw [hw3]; exact Mid.alloc ((Mid.refl _ _).setCell (p := ⟨W.heap.size + 1, 2, none⟩) (by simp) _) _
      have hb4 : Below W.heap.size W w3 := by rw [hw3]; exact below_alloc ((below_next (below_alloc (below_alloc (Below.refl W.heap.size W) _) _) HBL.out).setCell (p := ⟨W.heap.size + 1, 2, none⟩) (by simp) _) _
      clear hw3
      have HB3 := Lib.hid hb4
      have HM3 := Lib.hid hm3
      obtain ⟨hcl3, hf3⟩ := bcell hb3
      have he0 : w2.cell? ⟨W.heap.size + 1, 0, none⟩ = some (.int .i64 (0)) := by rw [hcl _ _ (by simp)]; simp [go_sem]
      have he1 : w2.cell? ⟨W.heap.size + 1, 1, none⟩ = some (.int .i64 (0)) := by rw [hcl _ _ (by simp)]; simp [go_sem]
      have he2 : w2.cell? ⟨W.heap.size + 1, 2, none⟩ = some (.slice none 0 0) := by rw [hcl _ _ (by simp)]; simp [go_sem]
      have hd0 : w3.cell? ⟨W.heap.size, 0, none⟩ = some (.int .i64 0) := by rw [hcl3 _ _ (by simp [World.setCell]; omega)]; simp [go_sem, hc0]
      have hd1 : w3.cell? ⟨W.heap.size, 1, none⟩ = some (.int .i64 0) := by rw [hcl3 _ _ (by simp [World.setCell]; omega)]; simp [go_sem, hc1]
      have hd2 : w3.cell? ⟨W.heap.size, 2, none⟩ = some (.slice none 0 0) := by rw [hcl3 _ _ (by simp [World.setCell]; omega)]; simp [go_sem, hc2]
      have hg0 : w3.cell? ⟨W.heap.size + 1, 0, none⟩ = some (.int .i64 (0)) := by rw [hcl3 _ _ (by simp [World.setCell]; omega)]; simp [go_sem, he0]
      have hg1 : w3.cell? ⟨W.heap.size + 1, 1, none⟩ = some (.int .i64 (0)) := by rw [hcl3 _ _ (by simp [World.setCell]; omega)]; simp [go_sem, he1]
      have hg2 : w3.cell? ⟨W.heap.size + 1, 2, none⟩ = some (.slice A2 r.length c2) := by rw [hcl3 _ _ (by simp [World.setCell]; omega)]; simp [go_sem, he2]
      have hk0 : w3.frozen? ⟨W.heap.size, 0, none⟩ = false := by rw [hf3 _ _ (by simp [World.setCell]; omega)]; simp [go_sem]; rw [hf _ _ (by simp; omega)]; simp [go_sem]
      have hk1 : w3.frozen? ⟨W.heap.size, 1, none⟩ = false := by rw [hf3 _ _ (by simp [World.setCell]; omega)]; simp [go_sem]; rw [hf _ _ (by simp; omega)]; simp [go_sem]
      have hk2 : w3.frozen? ⟨W.heap.size, 2, none⟩ = false := by rw [hf3 _ _ (by simp [World.setCell]; omega)]; simp [go_sem]; rw [hf _ _ (by simp; omega)]; simp [go_sem]
      clear hb3 hm3 hb4 hcl3 hf3 hcl hf he0 he1 he2 hc0 hc1 hc2
      go_wp2
      have HO' := HO.out.mono (base' := W.heap.size + 2) (by simp)
      exact bodyPost_ret (v := .tuple #[.agg #[.int .i64 (0), .int .i64 (0), .slice none 0 0], .int .i64 130]) (by simp [results, Try.results26, go_sem, hd0, hd1, hd2]) rfl (gh_no HP.out (((HB3.out.setCell (p := ⟨W.heap.size, 0, none⟩) (Nat.le_refl _) _).setCell (p := ⟨W.heap.size, 1, none⟩) (Nat.le_refl _) _).setCell (p := ⟨W.heap.size, 2, none⟩) (Nat.le_refl _) _))

    | true =>
      have HP := Lib.hid hP; clear hP
      go_enter Try.func26, Try.ntmps26
      go_wp2_with fail
      refine (refCopy_n _ _ _ r _ rfl (hbt.later (below_alloc (below_alloc (Below.refl _ _) _) _)) (by omega)).mono ?_
      rintro e w2 ⟨v2, rfl, ho2, hb2⟩
      obtain ⟨A2, c2, rfl, _, _, _⟩ := ho2.shape
      have HBL := Lib.hid hb2
      have HO := Lib.hid ho2
      obtain ⟨hcl, hf⟩ := bcell hb2
      have hz : W.heap.size + 2 ≤ w2.heap.size := by have := hb2.size; simp at this; omega
      have hc0 : w2.cell? ⟨W.heap.size, 0, none⟩ = some (.int .i64 0) := by rw [hcl _ _ (by simp; omega)]; simp [go_sem, World.cell?_alloc_past, World.cell?_alloc_at]
      have hc1 : w2.cell? ⟨W.heap.size, 1, none⟩ = some (.int .i64 0) := by rw [hcl _ _ (by simp; omega)]; simp [go_sem, World.cell?_alloc_past, World.cell?_alloc_at]
      have hc2 : w2.cell? ⟨W.heap.size, 2, none⟩ = some (.slice none 0 0) := by rw [hcl _ _ (by simp; omega)]; simp [go_sem, World.cell?_alloc_past, World.cell?_alloc_at]
      clear hb2 ho2 hbt hx hb
      go_wp2_with fail
      refine (refRight_any (0) (0) A2 r.length c2 hrl _).mono ?_
      rw [HP.out]
      rintro e w3 ⟨rfl, hw3⟩
      have hb3 : Below (w2.setCell ⟨W.heap.size + 1, 2, none⟩ (.slice A2 r.length c2)).heap.size (w2.setCell ⟨W.heap.size + 1, 2, none⟩ (.slice A2 r.length c2)) w3 := by rw [hw3]; exact below_alloc (Below.refl _ _) _
      have hm3 : Mid (W.heap.size + 2) w2 w3 := by rw [hw3]; exact Mid.alloc ((Mid.refl _ _).setCell (p := ⟨W.heap.size + 1, 2, none⟩) (by simp) _) _
      have hb4 : Below W.heap.size W w3 := by rw [hw3]; exact below_alloc ((below_next (below_alloc (below_alloc (Below.refl W.heap.size W) _) _) HBL.out).setCell (p := ⟨W.heap.size + 1, 2, none⟩) (by simp) _) _
      clear hw3
      have HB3 := Lib.hid hb4
      have HM3 := Lib.hid hm3
      obtain ⟨hcl3, hf3⟩ := bcell hb3
      have he0 : w2.cell? ⟨W.heap.size + 1, 0, none⟩ = some (.int .i64 (0)) := by rw [hcl _ _ (by simp)]; simp [go_sem]
      have he1 : w2.cell? ⟨W.heap.size + 1, 1, none⟩ = some (.int .i64 (0)) := by rw [hcl _ _ (by simp)]; simp [go_sem]
      have he2 : w2.cell? ⟨W.heap.size + 1, 2, none⟩ = some (.slice none 0 0) := by rw [hcl _ _ (by simp)]; simp [go_sem]
      have hd0 : w3.cell? ⟨W.heap.size, 0, none⟩ = some (.int .i64 0) := by rw [hcl3 _ _ (by simp [World.setCell]; omega)]; simp [go_sem, hc0]
      have hd1 : w3.cell? ⟨W.heap.size, 1, none⟩ = some (.int .i64 0) := by rw [hcl3 _ _ (by simp [World.setCell]; omega)]; simp [go_sem, hc1]
      have hd2 : w3.cell? ⟨W.heap.size, 2, none⟩ = some (.slice none 0 0) := by rw [hcl3 _ _ (by simp [World.setCell]; omega)]; simp [go_sem, hc2]
      have hg0 : w3.cell? ⟨W.heap.size + 1, 0, none⟩ = some (.int .i64 (0)) := by rw [hcl3 _ _ (by simp [World.setCell]; omega)]; simp [go_sem, he0]
      have hg1 : w3.cell? ⟨W.heap.size + 1, 1, none⟩ = some (.int .i64 (0)) := by rw [hcl3 _ _ (by simp [World.setCell]; omega)]; simp [go_sem, he1]
      have hg2 : w3.cell? ⟨W.heap.size + 1, 2, none⟩ = some (.slice A2 r.length c2) := by rw [hcl3 _ _ (by simp [World.setCell]; omega)]; simp [go_sem, he2]
      have hk0 : w3.frozen? ⟨W.heap.size, 0, none⟩ = false := by rw [hf3 _ _ (by simp [World.setCell]; omega)]; simp [go_sem]; rw [hf _ _ (by simp; omega)]; simp [go_sem]
      have hk1 : w3.frozen? ⟨W.heap.size, 1, none⟩ = false := by rw [hf3 _ _ (by simp [World.setCell]; omega)]; simp [go_sem]; rw [hf _ _ (by simp; omega)]; simp [go_sem]
      have hk2 : w3.frozen? ⟨W.heap.size, 2, none⟩ = false := by rw [hf3 _ _ (by simp [World.setCell]; omega)]; simp [go_sem]; rw [hf _ _ (by simp; omega)]; simp [go_sem]
      clear hb3 hm3 hb4 hcl3 hf3 hcl hf he0 he1 he2 hc0 hc1 hc2
      go_wp2
      have HO' := HO.out.mono (base' := W.heap.size + 2) (by simp)
      exact bodyPost_ret (v := .tuple #[.agg #[.int .i64 (0), .int .i64 (0), .slice A2 r.length c2], .int .i64 0]) (by simp [results, Try.results26, go_sem, hd0, hd1, hd2]) rfl (gh_yes HP.out (own_mid HO' (((HM3.out.setCell (p := ⟨W.heap.size, 0, none⟩) (by simp) _).setCell (p := ⟨W.heap.size, 1, none⟩) (by simp) _).setCell (p := ⟨W.heap.size, 2, none⟩) (by simp) _)).text (((HB3.out.setCell (p := ⟨W.heap.size, 0, none⟩) (Nat.le_refl _) _).setCell (p := ⟨W.heap.size, 1, none⟩) (Nat.le_refl _) _).setCell (p := ⟨W.heap.size, 2, none⟩) (Nat.le_refl _) _))

set_option maxHeartbeats 4000000 in
theorem refGet_1 (b off cap : Nat) (r : List UInt8) (W : World) (hc : r.length + 1 ≤ cap + 1) (_ : cap + 1 ≤ maxLen) (hl : r.length + 1 ≤ 140737488355328) (hb : b < W.heap.size) (hx : W.cell? ⟨b, off, none⟩ = some (.int .u8 1)) (hbt : Bytes W W.heap.size (some ⟨b, off + 1, none⟩) r) :
    Calls Try.prog 26 #[.slice (some ⟨b, off, none⟩) (r.length + 1) (cap + 1)] W (GivesH W (1) (0) r) := by
  have hrl : r.length ≤ maxLen := by unfold maxLen; omega
  rcases Nat.eq_zero_or_pos r.length with h0 | h0
  · obtain rfl : r = [] := List.eq_nil_of_length_eq_zero h0
    clear hbt h0
    cases hP : prOk (1) (0) 0 with
    | false =>
      have HP := Lib.hid hP
      have HP' := Lib.hid (show prOk (1) (0) ([] : List UInt8).length = false from hP)
      clear hP
      go_enter Try.func26, Try.ntmps26
      go_wp2_with fail
      refine (refRight_any (1) (0) none 0 0 (by simp [maxLen]) _).mono ?_
      rw [HP.out]
      rintro e w3 ⟨rfl, rfl⟩
      go_wp2
      exact bodyPost_ret (v := .tuple #[.agg #[.int .i64 (0), .int .i64 (0), .slice none 0 0], .int .i64 130]) (by simp [results, Try.results26, go_sem]) rfl (gh_no HP'.out (below_alloc (below_alloc (below_alloc (Below.refl _ _) _) _) _))
    | true =>
      have HP := Lib.hid hP
      have HP' := Lib.hid (show prOk (1) (0) ([] : List UInt8).length = true from hP)
      clear hP
      go_enter Try.func26, Try.ntmps26
      go_wp2_with fail
      refine (refRight_any (1) (0) none 0 0 (by simp [maxLen]) _).mono ?_
      rw [HP.out]
      rintro e w3 ⟨rfl, rfl⟩
      go_wp2
      exact bodyPost_ret (v := .tuple #[.agg #[.int .i64 (1), .int .i64 (0), .slice none 0 0], .int .i64 0]) (by simp [results, Try.results26, go_sem]) rfl (gh_yes HP'.out (IsText.nil _) (below_alloc (below_alloc (below_alloc (Below.refl _ _) _) _) _))
  · have h1 : (1 : Int) < (r.length : Int) + 1 := by omega
    clear h0
    cases hP : prOk (1) (0) r.length with
    | false =>
      have HP := Lib.hid hP; clear hP
      go_enter Try.func26, Try.ntmps26
      go_wp2_with fail
      refine (refCopy_n _ _ _ r _ rfl (hbt.later (below_alloc (below_alloc (Below.refl _ _) _) _)) (by omega)).mono ?_
      rintro e w2 ⟨v2, rfl, ho2, hb2⟩
      obtain ⟨A2, c2, rfl, _, _, _⟩ := ho2.shape
      have HBL := Lib.hid hb2
      have HO := Lib.hid ho2
      obtain ⟨hcl, hf⟩ := bcell hb2
      have hz : W.heap.size + 2 ≤ w2.heap.size := by have := hb2.size; simp at this; omega
      have hc0 : w2.cell? ⟨W.heap.size, 0, none⟩ = some (.int .i64 0) := by rw [hcl _ _ (by simp; omega)]; simp [go_sem, World.cell?_alloc_past, World.cell?_alloc_at]
      have hc1 : w2.cell? ⟨W.heap.size, 1, none⟩ = some (.int .i64 0) := by rw [hcl _ _ (by simp; omega)]; simp [go_sem, World.cell?_alloc_past, World.cell?_alloc_at]
      have hc2 : w2.cell? ⟨W.heap.size, 2, none⟩ = some (.slice none 0 0) := by rw [hcl _ _ (by simp; omega)]; simp [go_sem, World.cell?_alloc_past, World.cell?_alloc_at]
      clear hb2 ho2 hbt hx hb
      go_wp2_with fail
      refine (refRight_any (1) (0) A2 r.length c2 hrl _).mono ?_
      rw [HP.out]
      rintro e w3 ⟨rfl, hw3⟩
      have hb3 : Below (w2.setCell ⟨W.heap.size + 1, 2, none⟩ (.slice A2 r.length c2)).heap.size (w2.setCell ⟨W.heap.size + 1, 2, none⟩ (.slice A2 r.length c2)) w3 := by rw [hw3]; exact below_alloc (Below.refl _ _) _
      have hm3 : Mid (W.heap.size + 2) w2 w3 := by rw [hw3]; exact Mid.alloc ((Mid.refl _ _).setCell (p := ⟨W.heap.size + 1, 2, none⟩) (by simp) _) _
      have hb4 : Below W.heap.size W w3 := by rw [hw3]; exact below_alloc ((below_next (below_alloc (below_alloc (Below.refl W.heap.size W) _) _) HBL.out).setCell (p := ⟨W.heap.size + 1, 2, none⟩) (by simp) _) _
      clear hw3
      have HB3 := Lib.hid hb4
      have HM3 := Lib.hid hm3
      obtain ⟨hcl3, hf3⟩ := bcell hb3
      have he0 : w2.cell? ⟨W.heap.size + 1, 0, none⟩ = some (.int .i64 (1)) := by rw [hcl _ _ (by simp)]; simp [go_sem]
      have he1 : w2.cell? ⟨W.heap.size + 1, 1, none⟩ = some (.int .i64 (0)) := by rw [hcl _ _ (by simp)]; simp [go_sem]
      have he2 : w2.cell? ⟨W.heap.size + 1, 2, none⟩ = some (.slice none 0 0) := by rw [hcl _ _ (by simp)]; simp [go_sem]
      have hd0 : w3.cell? ⟨W.heap.size, 0, none⟩ = some (.int .i64 0) := by rw [hcl3 _ _ (by simp [World.setCell]; omega)]; simp [go_sem, hc0]
      have hd1 : w3.cell? ⟨W.heap.size, 1, none⟩ = some (.int .i64 0) := by rw [hcl3 _ _ (by simp [World.setCell]; omega)]; simp [go_sem, hc1]
      have hd2 : w3.cell? ⟨W.heap.size, 2, none⟩ = some (.slice none 0 0) := by rw [hcl3 _ _ (by simp [World.setCell]; omega)]; simp [go_sem, hc2]
      have hg0 : w3.cell? ⟨W.heap.size + 1, 0, none⟩ = some (.int .i64 (1)) := by rw [hcl3 _ _ (by simp [World.setCell]; omega)]; simp [go_sem, he0]
      have hg1 : w3.cell? ⟨W.heap.size + 1, 1, none⟩ = some (.int .i64 (0)) := by rw [hcl3 _ _ (by simp [World.setCell]; omega)]; simp [go_sem, he1]
      have hg2 : w3.cell? ⟨W.heap.size + 1, 2, none⟩ = some (.slice A2 r.length c2) := by rw [hcl3 _ _ (by simp [World.setCell]; omega)]; simp [go_sem, he2]
      have hk0 : w3.frozen? ⟨W.heap.size, 0, none⟩ = false := by rw [hf3 _ _ (by simp [World.setCell]; omega)]; simp [go_sem]; rw [hf _ _ (by simp; omega)]; simp [go_sem]
      have hk1 : w3.frozen? ⟨W.heap.size, 1, none⟩ = false := by rw [hf3 _ _ (by simp [World.setCell]; omega)]; simp [go_sem]; rw [hf _ _ (by simp; omega)]; simp [go_sem]
      have hk2 : w3.frozen? ⟨W.heap.size, 2, none⟩ = false := by rw [hf3 _ _ (by simp [World.setCell]; omega)]; simp [go_sem]; rw [hf _ _ (by simp; omega)]; simp [go_sem]
      clear hb3 hm3 hb4 hcl3 hf3 hcl hf he0 he1 he2 hc0 hc1 hc2
      go_wp2
      have HO' := HO.out.mono (base' := W.heap.size + 2) (by simp)
      exact bodyPost_ret (v := .tuple #[.agg #[.int .i64 (0), .int .i64 (0), .slice none 0 0], .int .i64 130]) (by simp [results, Try.results26, go_sem, hd0, hd1, hd2]) rfl (gh_no HP.out (((HB3.out.setCell (p := ⟨W.heap.size, 0, none⟩) (Nat.le_refl _) _).setCell (p := ⟨W.heap.size, 1, none⟩) (Nat.le_refl _) _).setCell (p := ⟨W.heap.size, 2, none⟩) (Nat.le_refl _) _))

    | true =>
      have HP := Lib.hid hP; clear hP
      go_enter Try.func26, Try.ntmps26
      go_wp2_with fail
      refine (refCopy_n _ _ _ r _ rfl (hbt.later (below_alloc (below_alloc (Below.refl _ _) _) _)) (by omega)).mono ?_
      rintro e w2 ⟨v2, rfl, ho2, hb2⟩
      obtain ⟨A2, c2, rfl, _, _, _⟩ := ho2.shape
      have HBL := Lib.hid hb2
      have HO := Lib.hid ho2
      obtain ⟨hcl, hf⟩ := bcell hb2
      have hz : W.heap.size + 2 ≤ w2.heap.size := by have := hb2.size; simp at this; omega
      have hc0 : w2.cell? ⟨W.heap.size, 0, none⟩ = some (.int .i64 0) := by rw [hcl _ _ (by simp; omega)]; simp [go_sem, World.cell?_alloc_past, World.cell?_alloc_at]
      have hc1 : w2.cell? ⟨W.heap.size, 1, none⟩ = some (.int .i64 0) := by rw [hcl _ _ (by simp; omega)]; simp [go_sem, World.cell?_alloc_past, World.cell?_alloc_at]
      have hc2 : w2.cell? ⟨W.heap.size, 2, none⟩ = some (.slice none 0 0) := by rw [hcl _ _ (by simp; omega)]; simp [go_sem, World.cell?_alloc_past, World.cell?_alloc_at]
      clear hb2 ho2 hbt hx hb
      go_wp2_with fail
      refine (refRight_any (1) (0) A2 r.length c2 hrl _).mono ?_
      rw [HP.out]
      rintro e w3 ⟨rfl, hw3⟩
      have hb3 : Below (w2.setCell ⟨W.heap.size + 1, 2, none⟩ (.slice A2 r.length c2)).heap.size (w2.setCell ⟨W.heap.size + 1, 2, none⟩ (.slice A2 r.length c2)) w3 := by rw [hw3]; exact below_alloc (Below.refl _ _) _
      have hm3 : Mid (W.heap.size + 2) w2 w3 := by rw [hw3]; exact Mid.alloc ((Mid.refl _ _).setCell (p := ⟨W.heap.size + 1, 2, none⟩) (by simp) _) _
      have hb4 : Below W.heap.size W w3 := by rw [hw3]; exact below_alloc ((below_next (below_alloc (below_alloc (Below.refl W.heap.size W) _) _) HBL.out).setCell (p := ⟨W.heap.size + 1, 2, none⟩) (by simp) _) _
      clear hw3
      have HB3 := Lib.hid hb4
      have HM3 := Lib.hid hm3
      obtain ⟨hcl3, hf3⟩ := bcell hb3
      have he0 : w2.cell? ⟨W.heap.size + 1, 0, none⟩ = some (.int .i64 (1)) := by rw [hcl _ _ (by simp)]; simp [go_sem]
      have he1 : w2.cell? ⟨W.heap.size + 1, 1, none⟩ = some (.int .i64 (0)) := by rw [hcl _ _ (by simp)]; simp [go_sem]
      have he2 : w2.cell? ⟨W.heap.size + 1, 2, none⟩ = some (.slice none 0 0) := by rw [hcl _ _ (by simp)]; simp [go_sem]
      have hd0 : w3.cell? ⟨W.heap.size, 0, none⟩ = some (.int .i64 0) := by rw [hcl3 _ _ (by simp [World.setCell]; omega)]; simp [go_sem, hc0]
      have hd1 : w3.cell? ⟨W.heap.size, 1, none⟩ = some (.int .i64 0) := by rw [hcl3 _ _ (by simp [World.setCell]; omega)]; simp [go_sem, hc1]
      have hd2 : w3.cell? ⟨W.heap.size, 2, none⟩ = some (.slice none 0 0) := by rw [hcl3 _ _ (by simp [World.setCell]; omega)]; simp [go_sem, hc2]
      have hg0 : w3.cell? ⟨W.heap.size + 1, 0, none⟩ = some (.int .i64 (1)) := by rw [hcl3 _ _ (by simp [World.setCell]; omega)]; simp [go_sem, he0]
      have hg1 : w3.cell? ⟨W.heap.size + 1, 1, none⟩ = some (.int .i64 (0)) := by rw [hcl3 _ _ (by simp [World.setCell]; omega)]; simp [go_sem, he1]
      have hg2 : w3.cell? ⟨W.heap.size + 1, 2, none⟩ = some (.slice A2 r.length c2) := by rw [hcl3 _ _ (by simp [World.setCell]; omega)]; simp [go_sem, he2]
      have hk0 : w3.frozen? ⟨W.heap.size, 0, none⟩ = false := by rw [hf3 _ _ (by simp [World.setCell]; omega)]; simp [go_sem]; rw [hf _ _ (by simp; omega)]; simp [go_sem]
      have hk1 : w3.frozen? ⟨W.heap.size, 1, none⟩ = false := by rw [hf3 _ _ (by simp [World.setCell]; omega)]; simp [go_sem]; rw [hf _ _ (by simp; omega)]; simp [go_sem]
      have hk2 : w3.frozen? ⟨W.heap.size, 2, none⟩ = false := by rw [hf3 _ _ (by simp [World.setCell]; omega)]; simp [go_sem]; rw [hf _ _ (by simp; omega)]; simp [go_sem]
      clear hb3 hm3 hb4 hcl3 hf3 hcl hf he0 he1 he2 hc0 hc1 hc2
      go_wp2
      have HO' := HO.out.mono (base' := W.heap.size + 2) (by simp)
      exact bodyPost_ret (v := .tuple #[.agg #[.int .i64 (1), .int .i64 (0), .slice A2 r.length c2], .int .i64 0]) (by simp [results, Try.results26, go_sem, hd0, hd1, hd2]) rfl (gh_yes HP.out (own_mid HO' (((HM3.out.setCell (p := ⟨W.heap.size, 0, none⟩) (by simp) _).setCell (p := ⟨W.heap.size, 1, none⟩) (by simp) _).setCell (p := ⟨W.heap.size, 2, none⟩) (by simp) _)).text (((HB3.out.setCell (p := ⟨W.heap.size, 0, none⟩) (Nat.le_refl _) _).setCell (p := ⟨W.heap.size, 1, none⟩) (Nat.le_refl _) _).setCell (p := ⟨W.heap.size, 2, none⟩) (Nat.le_refl _) _))

set_option maxHeartbeats 4000000 in
theorem refGet_2 (b off cap : Nat) (r : List UInt8) (W : World) (hc : r.length + 1 ≤ cap + 1) (_ : cap + 1 ≤ maxLen) (hl : r.length + 1 ≤ 140737488355328) (hb : b < W.heap.size) (hx : W.cell? ⟨b, off, none⟩ = some (.int .u8 2)) (hbt : Bytes W W.heap.size (some ⟨b, off + 1, none⟩) r) :
    Calls Try.prog 26 #[.slice (some ⟨b, off, none⟩) (r.length + 1) (cap + 1)] W (GivesH W (2) (0) r) := by
  have hrl : r.length ≤ maxLen := by unfold maxLen; omega
  rcases Nat.eq_zero_or_pos r.length with h0 | h0
  · obtain rfl : r = [] := List.eq_nil_of_length_eq_zero h0
    clear hbt h0
    cases hP : prOk (2) (0) 0 with
    | false =>
      have HP := Lib.hid hP
      have HP' := Lib.hid (show prOk (2) (0) ([] : List UInt8).length = false from hP)
      clear hP
      go_enter Try.func26, Try.ntmps26
      go_wp2_with fail
      refine (refRight_any (2) (0) none 0 0 (by simp [maxLen]) _).mono ?_
      rw [HP.out]
      rintro e w3 ⟨rfl, rfl⟩
      go_wp2
      exact bodyPost_ret (v := .tuple #[.agg #[.int .i64 (0), .int .i64 (0), .slice none 0 0], .int .i64 130]) (by simp [results, Try.results26, go_sem]) rfl (gh_no HP'.out (below_alloc (below_alloc (below_alloc (Below.refl _ _) _) _) _))
    | true =>
      have HP := Lib.hid hP
      have HP' := Lib.hid (show prOk (2) (0) ([] : List UInt8).length = true from hP)
      clear hP
      go_enter Try.func26, Try.ntmps26
      go_wp2_with fail
      refine (refRight_any (2) (0) none 0 0 (by simp [maxLen]) _).mono ?_
      rw [HP.out]
      rintro e w3 ⟨rfl, rfl⟩
      go_wp2
      exact bodyPost_ret (v := .tuple #[.agg #[.int .i64 (2), .int .i64 (0), .slice none 0 0], .int .i64 0]) (by simp [results, Try.results26, go_sem]) rfl (gh_yes HP'.out (IsText.nil _) (below_alloc (below_alloc (below_alloc (Below.refl _ _) _) _) _))
  · have h1 : (1 : Int) < (r.length : Int) + 1 := by omega
    clear h0
    cases hP : prOk (2) (0) r.length with
    | false =>
      have HP := Lib.hid hP; clear hP
      go_enter Try.func26, Try.ntmps26
      go_wp2_with fail
      refine (refCopy_n _ _ _ r _ rfl (hbt.later (below_alloc (below_alloc (Below.refl _ _) _) _)) (by omega)).mono ?_
      rintro e w2 ⟨v2, rfl, ho2, hb2⟩
      obtain ⟨A2, c2, rfl, _, _, _⟩ := ho2.shape
      have HBL := Lib.hid hb2
      have HO := Lib.hid ho2
      obtain ⟨hcl, hf⟩ := bcell hb2
      have hz : W.heap.size + 2 ≤ w2.heap.size := by have := hb2.size; simp at this; omega
      have hc0 : w2.cell? ⟨W.heap.size, 0, none⟩ = some (.int .i64 0) := by rw [hcl _ _ (by simp; omega)]; simp [go_sem, World.cell?_alloc_past, World.cell?_alloc_at]
      have hc1 : w2.cell? ⟨W.heap.size, 1, none⟩ = some (.int .i64 0) := by rw [hcl _ _ (by simp; omega)]; simp [go_sem, World.cell?_alloc_past, World.cell?_alloc_at]
      have hc2 : w2.cell? ⟨W.heap.size, 2, none⟩ = some (.slice none 0 0) := by rw [hcl _ _ (by simp; omega)]; simp [go_sem, World.cell?_alloc_past, World.cell?_alloc_at]
      clear hb2 ho2 hbt hx hb
      go_wp2_with fail
      refine (refRight_any (2) (0) A2 r.length c2 hrl _).mono ?_
      rw [HP.out]
      rintro e w3 ⟨rfl, hw3⟩
      have hb3 : Below (w2.setCell ⟨W.heap.size + 1, 2, none⟩ (.slice A2 r.length c2)).heap.size (w2.setCell ⟨W.heap.size + 1, 2, none⟩ (.slice A2 r.length c2)) w3 := by rw [hw3]; exact below_alloc (Below.refl _ _) _
      have hm3 : Mid (W.heap.size + 2) w2 w3 := by rw [hw3]; exact Mid.alloc ((Mid.refl _ _).setCell (p := ⟨W.heap.size + 1, 2, none⟩) (by simp) _) _
      have hb4 : Below W.heap.size W w3 := by rw [hw3]; exact below_alloc ((below_next (below_alloc (below_alloc (Below.refl W.heap.size W) _) _) HBL.out).setCell (p := ⟨W.heap.size + 1, 2, none⟩) (by simp) _) _
      clear hw3
      have HB3 := Lib.hid hb4
      have HM3 := Lib.hid hm3
      obtain ⟨hcl3, hf3⟩ := bcell hb3
      have he0 : w2.cell? ⟨W.heap.size + 1, 0, none⟩ = some (.int .i64 (2)) := by rw [hcl _ _ (by simp)]; simp [go_sem]
      have he1 : w2.cell? ⟨W.heap.size + 1, 1, none⟩ = some (.int .i64 (0)) := by rw [hcl _ _ (by simp)]; simp [go_sem]
      have he2 : w2.cell? ⟨W.heap.size + 1, 2, none⟩ = some (.slice none 0 0) := by rw [hcl _ _ (by simp)]; simp [go_sem]
      have hd0 : w3.cell? ⟨W.heap.size, 0, none⟩ = some (.int .i64 0) := by rw [hcl3 _ _ (by simp [World.setCell]; omega)]; simp [go_sem, hc0]
      have hd1 : w3.cell? ⟨W.heap.size, 1, none⟩ = some (.int .i64 0) := by rw [hcl3 _ _ (by simp [World.setCell]; omega)]; simp [go_sem, hc1]
      have hd2 : w3.cell? ⟨W.heap.size, 2, none⟩ = some (.slice none 0 0) := by rw [hcl3 _ _ (by simp [World.setCell]; omega)]; simp [go_sem, hc2]
      have hg0 : w3.cell? ⟨W.heap.size + 1, 0, none⟩ = some (.int .i64 (2)) := by rw [hcl3 _ _ (by simp [World.setCell]; omega)]; simp [go_sem, he0]
      have hg1 : w3.cell? ⟨W.heap.size + 1, 1, none⟩ = some (.int .i64 (0)) := by rw [hcl3 _ _ (by simp [World.setCell]; omega)]; simp [go_sem, he1]
      have hg2 : w3.cell? ⟨W.heap.size + 1, 2, none⟩ = some (.slice A2 r.length c2) := by rw [hcl3 _ _ (by simp [World.setCell]; omega)]; simp [go_sem, he2]
      have hk0 : w3.frozen? ⟨W.heap.size, 0, none⟩ = false := by rw [hf3 _ _ (by simp [World.setCell]; omega)]; simp [go_sem]; rw [hf _ _ (by simp; omega)]; simp [go_sem]
      have hk1 : w3.frozen? ⟨W.heap.size, 1, none⟩ = false := by rw [hf3 _ _ (by simp [World.setCell]; omega)]; simp [go_sem]; rw [hf _ _ (by simp; omega)]; simp [go_sem]
      have hk2 : w3.frozen? ⟨W.heap.size, 2, none⟩ = false := by rw [hf3 _ _ (by simp [World.setCell]; omega)]; simp [go_sem]; rw [hf _ _ (by simp; omega)]; simp [go_sem]
      clear hb3 hm3 hb4 hcl3 hf3 hcl hf he0 he1 he2 hc0 hc1 hc2
      go_wp2
      have HO' := HO.out.mono (base' := W.heap.size + 2) (by simp)
      exact bodyPost_ret (v := .tuple #[.agg #[.int .i64 (0), .int .i64 (0), .slice none 0 0], .int .i64 130]) (by simp [results, Try.results26, go_sem, hd0, hd1, hd2]) rfl (gh_no HP.out (((HB3.out.setCell (p := ⟨W.heap.size, 0, none⟩) (Nat.le_refl _) _).setCell (p := ⟨W.heap.size, 1, none⟩) (Nat.le_refl _) _).setCell (p := ⟨W.heap.size, 2, none⟩) (Nat.le_refl _) _))

    | true =>
      have HP := Lib.hid hP; clear hP
      go_enter Try.func26, Try.ntmps26
      go_wp2_with fail
      refine (refCopy_n _ _ _ r _ rfl (hbt.later (below_alloc (below_alloc (Below.refl _ _) _) _)) (by omega)).mono ?_
      rintro e w2 ⟨v2, rfl, ho2, hb2⟩
      obtain ⟨A2, c2, rfl, _, _, _⟩ := ho2.shape
      have HBL := Lib.hid hb2
      have HO := Lib.hid ho2
      obtain ⟨hcl, hf⟩ := bcell hb2
      have hz : W.heap.size + 2 ≤ w2.heap.size := by have := hb2.size; simp at this; omega
      have hc0 : w2.cell? ⟨W.heap.size, 0, none⟩ = some (.int .i64 0) := by rw [hcl _ _ (by simp; omega)]; simp [go_sem, World.cell?_alloc_past, World.cell?_alloc_at]
      have hc1 : w2.cell? ⟨W.heap.size, 1, none⟩ = some (.int .i64 0) := by rw [hcl _ _ (by simp; omega)]; simp [go_sem, World.cell?_alloc_past, World.cell?_alloc_at]
      have hc2 : w2.cell? ⟨W.heap.size, 2, none⟩ = some (.slice none 0 0) := by rw [hcl _ _ (by simp; omega)]; simp [go_sem, World.cell?_alloc_past, World.cell?_alloc_at]
      clear hb2 ho2 hbt hx hb
      go_wp2_with fail
      refine (refRight_any (2) (0) A2 r.length c2 hrl _).mono ?_
      rw [HP.out]
      rintro e w3 ⟨rfl, hw3⟩
      have hb3 : Below (w2.setCell ⟨W.heap.size + 1, 2, none⟩ (.slice A2 r.length c2)).heap.size (w2.setCell ⟨W.heap.size + 1, 2, none⟩ (.slice A2 r.length c2)) w3 := by rw [hw3]; exact below_alloc (Below.refl _ _) _
      have hm3 : Mid (W.heap.size + 2) w2 w3 := by rw [hw3]; exact Mid.alloc ((Mid.refl _ _).setCell (p := ⟨W.heap.size + 1, 2, none⟩) (by simp) _) _
      have hb4 : Below W.heap.size W w3 := by rw [hw3]; exact below_alloc ((below_next (below_alloc (below_alloc (Below.refl W.heap.size W) _) _) HBL.out).setCell (p := ⟨W.heap.size + 1, 2, none⟩) (by simp) _) _
      clear hw3
      have HB3 := Lib.hid hb4
      have HM3 := Lib.hid hm3
      obtain ⟨hcl3, hf3⟩ := bcell hb3
      have he0 : w2.cell? ⟨W.heap.size + 1, 0, none⟩ = some (.int .i64 (2)) := by rw [hcl _ _ (by simp)]; simp [go_sem]
      have he1 : w2.cell? ⟨W.heap.size + 1, 1, none⟩ = some (.int .i64 (0)) := by rw [hcl _ _ (by simp)]; simp [go_sem]
      have he2 : w2.cell? ⟨W.heap.size + 1, 2, none⟩ = some (.slice none 0 0) := by rw [hcl _ _ (by simp)]; simp [go_sem]
      have hd0 : w3.cell? ⟨W.heap.size, 0, none⟩ = some (.int .i64 0) := by rw [hcl3 _ _ (by simp [World.setCell]; omega)]; simp [go_sem, hc0]
      have hd1 : w3.cell? ⟨W.heap.size, 1, none⟩ = some (.int .i64 0) := by rw [hcl3 _ _ (by simp [World.setCell]; omega)]; simp [go_sem, hc1]
      have hd2 : w3.cell? ⟨W.heap.size, 2, none⟩ = some (.slice none 0 0) := by rw [hcl3 _ _ (by simp [World.setCell]; omega)]; simp [go_sem, hc2]
      have hg0 : w3.cell? ⟨W.heap.size + 1, 0, none⟩ = some (.int .i64 (2)) := by rw [hcl3 _ _ (by simp [World.setCell]; omega)]; simp [go_sem, he0]
      have hg1 : w3.cell? ⟨W.heap.size + 1, 1, none⟩ = some (.int .i64 (0)) := by rw [hcl3 _ _ (by simp [World.setCell]; omega)]; simp [go_sem, he1]
      have hg2 : w3.cell? ⟨W.heap.size + 1, 2, none⟩ = some (.slice A2 r.length c2) := by rw [hcl3 _ _ (by simp [World.setCell]; omega)]; simp [go_sem, he2]
      have hk0 : w3.frozen? ⟨W.heap.size, 0, none⟩ = false := by rw [hf3 _ _ (by simp [World.setCell]; omega)]; simp [go_sem]; rw [hf _ _ (by simp; omega)]; simp [go_sem]
      have hk1 : w3.frozen? ⟨W.heap.size, 1, none⟩ = false := by rw [hf3 _ _ (by simp [World.setCell]; omega)]; simp [go_sem]; rw [hf _ _ (by simp; omega)]; simp [go_sem]
      have hk2 : w3.frozen? ⟨W.heap.size, 2, none⟩ = false := by rw [hf3 _ _ (by simp [World.setCell]; omega)]; simp [go_sem]; rw [hf _ _ (by simp; omega)]; simp [go_sem]
      clear hb3 hm3 hb4 hcl3 hf3 hcl hf he0 he1 he2 hc0 hc1 hc2
      go_wp2
      have HO' := HO.out.mono (base' := W.heap.size + 2) (by simp)
      exact bodyPost_ret (v := .tuple #[.agg #[.int .i64 (2), .int .i64 (0), .slice A2 r.length c2], .int .i64 0]) (by simp [results, Try.results26, go_sem, hd0, hd1, hd2]) rfl (gh_yes HP.out (own_mid HO' (((HM3.out.setCell (p := ⟨W.heap.size, 0, none⟩) (by simp) _).setCell (p := ⟨W.heap.size, 1, none⟩) (by simp) _).setCell (p := ⟨W.heap.size, 2, none⟩) (by simp) _)).text (((HB3.out.setCell (p := ⟨W.heap.size, 0, none⟩) (Nat.le_refl _) _).setCell (p := ⟨W.heap.size, 1, none⟩) (Nat.le_refl _) _).setCell (p := ⟨W.heap.size, 2, none⟩) (Nat.le_refl _) _))

/-- the document's Get -/
theorem refGet_any (A : Option Addr) (cap : Nat) (l : List UInt8) (W : World) (hc : l.length ≤ cap) (hm : cap ≤ maxLen) (hl : l.length ≤ 140737488355328) (hA : Bytes W W.heap.size A l) :
    Calls Try.prog 26 #[.slice A l.length cap] W (GivesP W l) := by
  cases l with
  | nil =>
    go_enter Try.func26, Try.ntmps26
    go_wp2
    exact bodyPost_ret (v := .tuple #[.agg #[.int .i64 0, .int .i64 0, .slice none 0 0], .int .i64 130]) (by simp [results, Try.results26, go_sem]) rfl ⟨_, rfl, IsText.nil _, below_alloc (Below.refl _ _) _⟩
  | cons c r =>
    obtain ⟨b, off, rfl, hb, hx⟩ := hA.at_ (k := 0) (by simp)
    have hbt : Bytes W W.heap.size (some ⟨b, off + 1, none⟩) r := hA.drop (k := 1) (by simp)
    simp only [List.length_cons] at hc hl ⊢
    have e0 : byteAt (c :: r) 0 = c.toNat := rfl
    rw [e0, Nat.add_zero] at hx
    obtain ⟨cap, rfl⟩ : ∃ m, cap = m + 1 := ⟨cap - 1, by omega⟩
    have key : ∀ (k lb : Int), ofK c.toNat = k → ofL c.toNat = lb → ofB c.toNat = true → ∀ e w', GivesH W k lb r e w' → GivesP W (c :: r) e w' := by
      intro k lb hk hlb hB e w' h
      subst hk hlb
      obtain ⟨v, h1, h2, h3⟩ := h
      have ho : gOk (c :: r) = prOk (ofK c.toNat) (ofL c.toNat) r.length := by simp only [gOk, hB, Bool.true_and]
      refine ⟨v, ?_, ?_, h3⟩
      · unfold gK gL gE
        rw [ho, e0]
        exact h1
      · unfold gD
        rw [ho]
        exact h2
    have hcl : c.toNat < 256 := c.toNat_lt
    have hcases : c.toNat = 0 ∨ c.toNat = 1 ∨ c.toNat = 2 ∨ c.toNat = 4 ∨ c.toNat = 5 ∨ c.toNat = 6 ∨ c.toNat = 7 ∨ (c.toNat = 3 ∨ 8 ≤ c.toNat) := by omega
    rcases hcases with h | h | h | h | h | h | h | h
    · rw [h] at hx key; exact (refGet_0 b off cap r W hc hm hl hb hx hbt).mono (key 0 0 rfl rfl rfl)
    · rw [h] at hx key; exact (refGet_1 b off cap r W hc hm hl hb hx hbt).mono (key 1 0 rfl rfl rfl)
    · rw [h] at hx key; exact (refGet_2 b off cap r W hc hm hl hb hx hbt).mono (key 2 0 rfl rfl rfl)
    · rw [h] at hx key; exact (refGet_4 b off cap r W hc hm hl hb hx hbt).mono (key 3 0 rfl rfl rfl)
    · rw [h] at hx key; exact (refGet_5 b off cap r W hc hm hl hb hx hbt).mono (key 3 1 rfl rfl rfl)
    · rw [h] at hx key; exact (refGet_6 b off cap r W hc hm hl hb hx hbt).mono (key 4 0 rfl rfl rfl)
    · rw [h] at hx key; exact (refGet_7 b off cap r W hc hm hl hb hx hbt).mono (key 4 1 rfl rfl rfl)
    · have hB : ofB c.toNat = false := decide_eq_false (by omega)
      have ho : gOk (c :: r) = false := by simp only [gOk, hB, Bool.false_and]
      have HO := Lib.hid ho
      have h4 : (((c.toNat : Int)) == 4) = false := by simp; omega
      have h5 : (((c.toNat : Int)) == 5) = false := by simp; omega
      have h6 : (((c.toNat : Int)) == 6) = false := by simp; omega
      have h7 : (((c.toNat : Int)) == 7) = false := by simp; omega
      have h2 : (2 : Int) < (c.toNat : Int) := by omega
      have hr0 : (0 : Int) ≤ (c.toNat : Int) := by omega
      have hr1 : (c.toNat : Int) ≤ 255 := by omega
      clear key h hB ho hcl e0 hbt hA
      generalize (c.toNat : Int) = n at hx h4 h5 h6 h7 h2 hr0 hr1
      unfold maxLen at hm
      go_enter Try.func26, Try.ntmps26
      go_wp2
      refine bodyPost_ret (v := .tuple #[.agg #[.int .i64 0, .int .i64 0, .slice none 0 0], .int .i64 130]) (by simp [results, Try.results26, go_sem]) rfl ?_
      unfold GivesP gK gL gD gE
      rw [HO.out]
      exact ⟨_, rfl, IsText.nil _, below_alloc (below_alloc (Below.refl _ _) _) _⟩
end Go.Proofs.Ytonjdkankegdaaa.Probe
