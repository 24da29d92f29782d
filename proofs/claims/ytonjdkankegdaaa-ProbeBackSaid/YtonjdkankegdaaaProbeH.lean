
/- Layer 13 (probe): the document's Get. -/
import Derived.Test.YtonjdkankegdaaaProbeG
import Derived.Test.YtonjdkankegdaaaProbeS
namespace Go.Proofs.Ytonjdkankegdaaa.Probe
open Go.RowKit Go.Proofs.Ytonjdkankegdaaa.Mem Go.Proofs.Ytonjdkankegdaaa.Oct Go.Proofs.Ytonjdkankegdaaa.Pkt

theorem refCopy_n (A : Option Addr) (n cap : Nat) (l : List UInt8) (W : World) (hn : n = l.length) (hA : Bytes W W.heap.size A l) (hl : l.length ≤ 140737488355328) :
    Calls Try.prog 53 #[.slice A n cap] W (Gives W l) := Pkt.Copy_any A n cap l W hn hA hl

/-- what Get answers where the header says k and lb -/
def GivesH (w : World) (k lb : Int) (r : List UInt8) (e : Ending) (w' : World) : Prop :=
  ∃ v, e = .returned (.tuple #[.agg #[.int .i64 (if prOk k lb r.length = true then k else 0), .int .i64 (if prOk k lb r.length = true then lb else 0), v], .int .i64 (if prOk k lb r.length = true then 0 else 130)]) ∧ IsText w' v (if prOk k lb r.length = true then r else []) ∧ Below w.heap.size w w'
theorem gh_no {w w' : World} {k lb : Int} {r : List UInt8} (h : prOk k lb r.length = false) (hb : Below w.heap.size w w') : GivesH w k lb r (.returned (.tuple #[.agg #[.int .i64 0, .int .i64 0, .slice none 0 0], .int .i64 130])) w' := by
  unfold GivesH
  rw [h]
  exact ⟨_, rfl, IsText.nil _, hb⟩
theorem gh_yes {w w' : World} {k lb : Int} {r : List UInt8} {v : Value} (h : prOk k lb r.length = true) (ht : IsText w' v r) (hb : Below w.heap.size w w') : GivesH w k lb r (.returned (.tuple #[.agg #[.int .i64 k, .int .i64 lb, v], .int .i64 0])) w' := by
  unfold GivesH
  rw [h]
  exact ⟨_, rfl, ht, hb⟩

set_option maxHeartbeats 4000000 in
theorem refGet_4 (b off cap : Nat) (r : List UInt8) (W : World) (hc : r.length + 1 ≤ cap + 1) (_ : cap + 1 ≤ maxLen) (hl : r.length + 1 ≤ 140737488355328) (hb : b < W.heap.size) (hx : W.cell? ⟨b, off, none⟩ = some (.int .u8 4)) (hbt : Bytes W W.heap.size (some ⟨b, off + 1, none⟩) r) :
    Calls Try.prog 26 #[.slice (some ⟨b, off, none⟩) (r.length + 1) (cap + 1)] W (GivesH W (3) (0) r) := by
  have hrl : r.length ≤ maxLen := by unfold maxLen; omega
  rcases Nat.eq_zero_or_pos r.length with h0 | h0
  · obtain rfl : r = [] := List.eq_nil_of_length_eq_zero h0
    clear hbt h0
    cases hP : prOk (3) (0) 0 with
    | false =>
      have HP := Lib.hid hP
      have HP' := Lib.hid (show prOk (3) (0) ([] : List UInt8).length = false from hP)
      clear hP
      go_enter Try.func26, Try.ntmps26
      go_wp2_with fail
      refine (refRight_any (3) (0) none 0 0 (by simp [maxLen]) _).mono ?_
      rw [HP.out]
      rintro e w3 ⟨rfl, rfl⟩
      go_wp2
      exact bodyPost_ret (v := .tuple #[.agg #[.int .i64 (0), .int .i64 (0), .slice none 0 0], .int .i64 130]) (by simp [results, Try.results26, go_sem]) rfl (gh_no HP'.out (below_alloc (below_alloc (below_alloc (Below.refl _ _) _) _) _))
    | true =>
      have HP := Lib.hid hP
      have HP' := Lib.hid (show prOk (3) (0) ([] : List UInt8).length = true from hP)
      clear hP
      go_enter Try.func26, Try.ntmps26
      go_wp2_with fail
      refine (refRight_any (3) (0) none 0 0 (by simp [maxLen]) _).mono ?_
      rw [HP.out]
      rintro e w3 ⟨rfl, rfl⟩
      go_wp2
      exact bodyPost_ret (v := .tuple #[.agg #[.int .i64 (3), .int .i64 (0), .slice none 0 0], .int .i64 0]) (by simp [results, Try.results26, go_sem]) rfl (gh_yes HP'.out (IsText.nil _) (below_alloc (below_alloc (below_alloc (Below.refl _ _) _) _) _))
  · have h1 : (1 : Int) < (r.length : Int) + 1 := by omega
    clear h0
    cases hP : prOk (3) (0) r.length with
    | false =>
      have HP := Lib.hid hP; clear hP
      go_enter Try.func26, Try.ntmps26
      go_wp2_with fail
      refine (refCopy_n _ _ _ r _ rfl (hbt.later (below_alloc (below_alloc (Below.refl _ _) _) _)) (by omega)).mono ?_
      rintro e w2 ⟨v2, rfl, ho2, hb2⟩
      obtain ⟨A2, c2, rfl, _, _, _⟩ := ho2.shape
      have HBL := Lib.hid hb2
      have HO := Lib.hid ho2
      obtain ⟨hcl, hf⟩ := bcell hb2
      have hz : W.heap.size + 2 ≤ w2.heap.size := by have := hb2.size; simp at this; omega
      have hc0 : w2.cell? ⟨W.heap.size, 0, none⟩ = some (.int .i64 0) := by rw [hcl _ _ (by simp; omega)]; simp [go_sem, World.cell?_alloc_past, World.cell?_alloc_at]
      have hc1 : w2.cell? ⟨W.heap.size, 1, none⟩ = some (.int .i64 0) := by rw [hcl _ _ (by simp; omega)]; simp [go_sem, World.cell?_alloc_past, World.cell?_alloc_at]
      have hc2 : w2.cell? ⟨W.heap.size, 2, none⟩ = some (.slice none 0 0) := by rw [hcl _ _ (by simp; omega)]; simp [go_sem, World.cell?_alloc_past, World.cell?_alloc_at]
      clear hb2 ho2 hbt hx hb
      go_wp2_with fail
      refine (refRight_any (3) (0) A2 r.length c2 hrl _).mono ?_
      rw [HP.out]
      rintro e w3 ⟨rfl, hw3⟩
      have hb3 : Below (w2.setCell ⟨W.heap.size + 1, 2, none⟩ (.slice A2 r.length c2)).heap.size (w2.setCell ⟨W.heap.size + 1, 2, none⟩ (.slice A2 r.length c2)) w3 := by rw [hw3]; exact below_alloc (Below.refl _ _) _
      have hm3 : Mid (W.heap.size + 2) w2 w3 := by rw [hw3]; exact Mid.alloc ((Mid.refl _ _).setCell (p := ⟨W.heap.size + 1, 2, none⟩) (by simp) _) _
      have hb4 : Below W.heap.size W w3 := by rw [hw3]; exact below_alloc ((below_next (below_alloc (below_alloc (Below.refl W.heap.size W) _) _) HBL.out).setCell (p := ⟨W.heap.size + 1, 2, none⟩) (by simp) _) _
      clear hw3
      have HB3 := Lib.hid hb4
      have HM3 := Lib.hid hm3
      obtain ⟨hcl3, hf3⟩ := bcell hb3
      have he0 : w2.cell? ⟨W.heap.size + 1, 0, none⟩ = some (.int .i64 (3)) := by rw [hcl _ _ (by simp)]; simp [go_sem]
      have he1 : w2.cell? ⟨W.heap.size + 1, 1, none⟩ = some (.int .i64 (0)) := by rw [hcl _ _ (by simp)]; simp [go_sem]
      have he2 : w2.cell? ⟨W.heap.size + 1, 2, none⟩ = some (.slice none 0 0) := by rw [hcl _ _ (by simp)]; simp [go_sem]
      have hd0 : w3.cell? ⟨W.heap.size, 0, none⟩ = some (.int .i64 0) := by rw [hcl3 _ _ (by simp [World.setCell]; omega)]; simp [go_sem, hc0]
      have hd1 : w3.cell? ⟨W.heap.size, 1, none⟩ = some (.int .i64 0) := by rw [hcl3 _ _ (by simp [World.setCell]; omega)]; simp [go_sem, hc1]
      have hd2 : w3.cell? ⟨W.heap.size, 2, none⟩ = some (.slice none 0 0) := by rw [hcl3 _ _ (by simp [World.setCell]; omega)]; simp [go_sem, hc2]
      have hg0 : w3.cell? ⟨W.heap.size + 1, 0, none⟩ = some (.int .i64 (3)) := by rw [hcl3 _ _ (by simp [World.setCell]; omega)]; simp [go_sem, he0]
      have hg1 : w3.cell? ⟨W.heap.size + 1, 1, none⟩ = some (.int .i64 (0)) := by rw [hcl3 _ _ (by simp [World.setCell]; omega)]; simp [go_sem, he1]
      have hg2 : w3.cell? ⟨W.heap.size + 1, 2, none⟩ = some (.slice A2 r.length c2) := by rw [hcl3 _ _ (by simp [World.setCell]; omega)]; simp [go_sem, he2]
      have hk0 : w3.frozen? ⟨W.heap.size, 0, none⟩ = false := by rw [hf3 _ _ (by simp [World.setCell]; omega)]; simp [go_sem]; rw [hf _ _ (by simp; omega)]; simp [go_sem]
      have hk1 : w3.frozen? ⟨W.heap.size, 1, none⟩ = false := by rw [hf3 _ _ (by simp [World.setCell]; omega)]; simp [go_sem]; rw [hf _ _ (by simp; omega)]; simp [go_sem]
      have hk2 : w3.frozen? ⟨W.heap.size, 2, none⟩ = false := by rw [hf3 _ _ (by simp [World.setCell]; omega)]; simp [go_sem]; rw [hf _ _ (by simp; omega)]; simp [go_sem]
      clear hb3 hm3 hb4 hcl3 hf3 hcl hf he0 he1 he2 hc0 hc1 hc2
      go_wp2
      have HO' := HO.out.mono (base' := W.heap.size + 2) (by simp)
      exact bodyPost_ret (v := .tuple #[.agg #[.int .i64 (0), .int .i64 (0), .slice none 0 0], .int .i64 130]) (by simp [results, Try.results26, go_sem, hd0, hd1, hd2]) rfl (gh_no HP.out (((HB3.out.setCell (p := ⟨W.heap.size, 0, none⟩) (Nat.le_refl _) _).setCell (p := ⟨W.heap.size, 1, none⟩) (Nat.le_refl _) _).setCell (p := ⟨W.heap.size, 2, none⟩) (Nat.le_refl _) _))

    | true =>
      have HP := Lib.hid hP; clear hP
      go_enter Try.func26, Try.ntmps26
      go_wp2_with fail
      refine (refCopy_n _ _ _ r _ rfl (hbt.later (below_alloc (below_alloc (Below.refl _ _) _) _)) (by omega)).mono ?_
      rintro e w2 ⟨v2, rfl, ho2, hb2⟩
      obtain ⟨A2, c2, rfl, _, _, _⟩ := ho2.shape
      have HBL := Lib.hid hb2
      have HO := Lib.hid ho2
      obtain ⟨hcl, hf⟩ := bcell hb2
      have hz : W.heap.size + 2 ≤ w2.heap.size := by have := hb2.size; simp at this; omega
      have hc0 : w2.cell? ⟨W.heap.size, 0, none⟩ = some (.int .i64 0) := by rw [hcl _ _ (by simp; omega)]; simp [go_sem, World.cell?_alloc_past, World.cell?_alloc_at]
      have hc1 : w2.cell? ⟨W.heap.size, 1, none⟩ = some (.int .i64 0) := by rw [hcl _ _ (by simp; omega)]; simp [go_sem, World.cell?_alloc_past, World.cell?_alloc_at]
      have hc2 : w2.cell? ⟨W.heap.size, 2, none⟩ = some (.slice none 0 0) := by rw [hcl _ _ (by simp; omega)]; simp [go_sem, World.cell?_alloc_past, World.cell?_alloc_at]
      clear hb2 ho2 hbt hx hb
      go_wp2_with fail
      refine (refRight_any (3) (0) A2 r.length c2 hrl _).mono ?_
      rw [HP.out]
      rintro e w3 ⟨rfl, hw3⟩
      have hb3 : Below (w2.setCell ⟨W.heap.size + 1, 2, none⟩ (.slice A2 r.length c2)).heap.size (w2.setCell ⟨W.heap.size + 1, 2, none⟩ (.slice A2 r.length c2)) w3 := by rw [hw3]; exact below_alloc (Below.refl _ _) _
      have hm3 : Mid (W.heap.size + 2) w2 w3 := by rw [hw3]; exact Mid.alloc ((Mid.refl _ _).setCell (p := ⟨W.heap.size + 1, 2, none⟩) (by simp) _) _
      have hb4 : Below W.heap.size W w3 := by rw [hw3]; exact below_alloc ((below_next (below_alloc (below_alloc (Below.refl W.heap.size W) _) _) HBL.out).setCell (p := ⟨W.heap.size + 1, 2, none⟩) (by simp) _) _
      clear hw3
      have HB3 := Lib.hid hb4
      have HM3 := Lib.hid hm3
      obtain ⟨hcl3, hf3⟩ := bcell hb3
      have he0 : w2.cell? ⟨W.heap.size + 1, 0, none⟩ = some (.int .i64 (3)) := by rw [hcl _ _ (by simp)]; simp [go_sem]
      have he1 : w2.cell? ⟨W.heap.size + 1, 1, none⟩ = some (.int .i64 (0)) := by rw [hcl _ _ (by simp)]; simp [go_sem]
      have he2 : w2.cell? ⟨W.heap.size + 1, 2, none⟩ = some (.slice none 0 0) := by rw [hcl _ _ (by simp)]; simp [go_sem]
      have hd0 : w3.cell? ⟨W.heap.size, 0, none⟩ = some (.int .i64 0) := by rw [hcl3 _ _ (by simp [World.setCell]; omega)]; simp [go_sem, hc0]
      have hd1 : w3.cell? ⟨W.heap.size, 1, none⟩ = some (.int .i64 0) := by rw [hcl3 _ _ (by simp [World.setCell]; omega)]; simp [go_sem, hc1]
      have hd2 : w3.cell? ⟨W.heap.size, 2, none⟩ = some (.slice none 0 0) := by rw [hcl3 _ _ (by simp [World.setCell]; omega)]; simp [go_sem, hc2]
      have hg0 : w3.cell? ⟨W.heap.size + 1, 0, none⟩ = some (.int .i64 (3)) := by rw [hcl3 _ _ (by simp [World.setCell]; omega)]; simp [go_sem, he0]
      have hg1 : w3.cell? ⟨W.heap.size + 1, 1, none⟩ = some (.int .i64 (0)) := by rw [hcl3 _ _ (by simp [World.setCell]; omega)]; simp [go_sem, he1]
      have hg2 : w3.cell? ⟨W.heap.size + 1, 2, none⟩ = some (.slice A2 r.length c2) := by rw [hcl3 _ _ (by simp [World.setCell]; omega)]; simp [go_sem, he2]
      have hk0 : w3.frozen? ⟨W.heap.size, 0, none⟩ = false := by rw [hf3 _ _ (by simp [World.setCell]; omega)]; simp [go_sem]; rw [hf _ _ (by simp; omega)]; simp [go_sem]
      have hk1 : w3.frozen? ⟨W.heap.size, 1, none⟩ = false := by rw [hf3 _ _ (by simp [World.setCell]; omega)]; simp [go_sem]; rw [hf _ _ (by simp; omega)]; simp [go_sem]
      have hk2 : w3.frozen? ⟨W.heap.size, 2, none⟩ = false := by rw [hf3 _ _ (by simp [World.setCell]; omega)]; simp [go_sem]; rw [hf _ _ (by simp; omega)]; simp [go_sem]
      clear hb3 hm3 hb4 hcl3 hf3 hcl hf he0 he1 he2 hc0 hc1 hc2
      go_wp2
      have HO' := HO.out.mono (base' := W.heap.size + 2) (by simp)
      exact bodyPost_ret (v := .tuple #[.agg #[.int .i64 (3), .int .i64 (0), .slice A2 r.length c2], .int .i64 0]) (by simp [results, Try.results26, go_sem, hd0, hd1, hd2]) rfl (gh_yes HP.out (own_mid HO' (((HM3.out.setCell (p := ⟨W.heap.size, 0, none⟩) (by simp) _).setCell (p := ⟨W.heap.size, 1, none⟩) (by simp) _).setCell (p := ⟨W.heap.size, 2, none⟩) (by simp) _)).text (((HB3.out.setCell (p := ⟨W.heap.size, 0, none⟩) (Nat.le_refl _) _).setCell (p := ⟨W.heap.size, 1, none⟩) (Nat.le_refl _) _).setCell (p := ⟨W.heap.size, 2, none⟩) (Nat.le_refl _) _))

set_option maxHeartbeats 4000000 in
theorem refGet_5 (b off cap : Nat) (r : List UInt8) (W : World) (hc : r.length + 1 ≤ cap + 1) (_ : cap + 1 ≤ maxLen) (hl : r.length + 1 ≤ 140737488355328) (hb : b < W.heap.size) (hx : W.cell? ⟨b, off, none⟩ = some (.int .u8 5)) (hbt : Bytes W W.heap.size (some ⟨b, off + 1, none⟩) r) :
    Calls Try.prog 26 #[.slice (some ⟨b, off, none⟩) (r.length + 1) (cap + 1)] W (GivesH W (3) (1) r) := by
  have hrl : r.length ≤ maxLen := by unfold maxLen; omega
  rcases Nat.eq_zero_or_pos r.length with h0 | h0
  · obtain rfl : r = [] := List.eq_nil_of_length_eq_zero h0
    clear hbt h0
    cases hP : prOk (3) (1) 0 with
    | false =>
      have HP := Lib.hid hP
      have HP' := Lib.hid (show prOk (3) (1) ([] : List UInt8).length = false from hP)
      clear hP
      go_enter Try.func26, Try.ntmps26
      go_wp2_with fail
      refine (refRight_any (3) (1) none 0 0 (by simp [maxLen]) _).mono ?_
      rw [HP.out]
      rintro e w3 ⟨rfl, rfl⟩
      go_wp2
      exact bodyPost_ret (v := .tuple #[.agg #[.int .i64 (0), .int .i64 (0), .slice none 0 0], .int .i64 130]) (by simp [results, Try.results26, go_sem]) rfl (gh_no HP'.out (below_alloc (below_alloc (below_alloc (Below.refl _ _) _) _) _))
    | true =>
      have HP := Lib.hid hP
      have HP' := Lib.hid (show prOk (3) (1) ([] : List UInt8).length = true from hP)
      clear hP
      go_enter Try.func26, Try.ntmps26
      go_wp2_with fail
      refine (refRight_any (3) (1) none 0 0 (by simp [maxLen]) _).mono ?_
      rw [HP.out]
      rintro e w3 ⟨rfl, rfl⟩
      go_wp2
      exact bodyPost_ret (v := .tuple #[.agg #[.int .i64 (3), .int .i64 (1), .slice none 0 0], .int .i64 0]) (by simp [results, Try.results26, go_sem]) rfl (gh_yes HP'.out (IsText.nil _) (below_alloc (below_alloc (below_alloc (Below.refl _ _) _) _) _))
  · have h1 : (1 : Int) < (r.length : Int) + 1 := by omega
    clear h0
    cases hP : prOk (3) (1) r.length with
    | false =>
      have HP := Lib.hid hP; clear hP
      go_enter Try.func26, Try.ntmps26
      go_wp2_with fail
      refine (refCopy_n _ _ _ r _ rfl (hbt.later (below_alloc (below_alloc (Below.refl _ _) _) _)) (by omega)).mono ?_
      rintro e w2 ⟨v2, rfl, ho2, hb2⟩
      obtain ⟨A2, c2, rfl, _, _, _⟩ := ho2.shape
      have HBL := Lib.hid hb2
      have HO := Lib.hid ho2
      obtain ⟨hcl, hf⟩ := bcell hb2
      have hz : W.heap.size + 2 ≤ w2.heap.size := by have := hb2.size; simp at this; omega
      have hc0 : w2.cell? ⟨W.heap.size, 0, none⟩ = some (.int .i64 0) := by rw [hcl _ _ (by simp; omega)]; simp [go_sem, World.cell?_alloc_past, World.cell?_alloc_at]
      have hc1 : w2.cell? ⟨W.heap.size, 1, none⟩ = some (.int .i64 0) := by rw [hcl _ _ (by simp; omega)]; simp [go_sem, World.cell?_alloc_past, World.cell?_alloc_at]
      have hc2 : w2.cell? ⟨W.heap.size, 2, none⟩ = some (.slice none 0 0) := by rw [hcl _ _ (by simp; omega)]; simp [go_sem, World.cell?_alloc_past, World.cell?_alloc_at]
      clear hb2 ho2 hbt hx hb
      go_wp2_with fail
      refine (refRight_any (3) (1) A2 r.length c2 hrl _).mono ?_
      rw [HP.out]
      rintro e w3 ⟨rfl, hw3⟩
      have hb3 : Below (w2.setCell ⟨W.heap.size + 1, 2, none⟩ (.slice A2 r.length c2)).heap.size (w2.setCell ⟨W.heap.size + 1, 2, none⟩ (.slice A2 r.length c2)) w3 := by rw [hw3]; exact below_alloc (Below.refl _ _) _
      have hm3 : Mid (W.heap.size + 2) w2 w3 := by rw [hw3]; exact Mid.alloc ((Mid.refl _ _).setCell (p := ⟨W.heap.size + 1, 2, none⟩) (by simp) _) _
      have hb4 : Below W.heap.size W w3 := by rw [hw3]; exact below_alloc ((below_next (below_alloc (below_alloc (Below.refl W.heap.size W) _) _) HBL.out).setCell (p := ⟨W.heap.size + 1, 2, none⟩) (by simp) _) _
      clear hw3
      have HB3 := Lib.hid hb4
      have HM3 := Lib.hid hm3
      obtain ⟨hcl3, hf3⟩ := bcell hb3
      have he0 : w2.cell? ⟨W.heap.size + 1, 0, none⟩ = some (.int .i64 (3)) := by rw [hcl _ _ (by simp)]; simp [go_sem]
      have he1 : w2.cell? ⟨W.heap.size + 1, 1, none⟩ = some (.int .i64 (1)) := by rw [hcl _ _ (by simp)]; simp [go_sem]
      have he2 : w2.cell? ⟨W.heap.size + 1, 2, none⟩ = some (.slice none 0 0) := by rw [hcl _ _ (by simp)]; simp [go_sem]
      have hd0 : w3.cell? ⟨W.heap.size, 0, none⟩ = some (.int .i64 0) := by rw [hcl3 _ _ (by simp [World.setCell]; omega)]; simp [go_sem, hc0]
      have hd1 : w3.cell? ⟨W.heap.size, 1, none⟩ = some (.int .i64 0) := by rw [hcl3 _ _ (by simp [World.setCell]; omega)]; simp [go_sem, hc1]
      have hd2 : w3.cell? ⟨W.heap.size, 2, none⟩ = some (.slice none 0 0) := by rw [hcl3 _ _ (by simp [World.setCell]; omega)]; simp [go_sem, hc2]
      have hg0 : w3.cell? ⟨W.heap.size + 1, 0, none⟩ = some (.int .i64 (3)) := by rw [hcl3 _ _ (by simp [World.setCell]; omega)]; simp [go_sem, he0]
      have hg1 : w3.cell? ⟨W.heap.size + 1, 1, none⟩ = some (.int .i64 (1)) := by rw [hcl3 _ _ (by simp [World.setCell]; omega)]; simp [go_sem, he1]
      have hg2 : w3.cell? ⟨W.heap.size + 1, 2, none⟩ = some (.slice A2 r.length c2) := by rw [hcl3 _ _ (by simp [World.setCell]; omega)]; simp [go_sem, he2]
      have hk0 : w3.frozen? ⟨W.heap.size, 0, none⟩ = false := by rw [hf3 _ _ (by simp [World.setCell]; omega)]; simp [go_sem]; rw [hf _ _ (by simp; omega)]; simp [go_sem]
      have hk1 : w3.frozen? ⟨W.heap.size, 1, none⟩ = false := by rw [hf3 _ _ (by simp [World.setCell]; omega)]; simp [go_sem]; rw [hf _ _ (by simp; omega)]; simp [go_sem]
      have hk2 : w3.frozen? ⟨W.heap.size, 2, none⟩ = false := by rw [hf3 _ _ (by simp [World.setCell]; omega)]; simp [go_sem]; rw [hf _ _ (by simp; omega)]; simp [go_sem]
      clear hb3 hm3 hb4 hcl3 hf3 hcl hf he0 he1 he2 hc0 hc1 hc2
      go_wp2
      have HO' := HO.out.mono (base' := W.heap.size + 2) (by simp)
      exact bodyPost_ret (v := .tuple #[.agg #[.int .i64 (0), .int .i64 (0), .slice none 0 0], .int .i64 130]) (by simp [results, Try.results26, go_sem, hd0, hd1, hd2]) rfl (gh_no HP.out (((HB3.out.setCell (p := ⟨W.heap.size, 0, none⟩) (Nat.le_refl _) _).setCell (p := ⟨W.heap.size, 1, none⟩) (Nat.le_refl _) _).setCell (p := ⟨W.heap.size, 2, none⟩) (Nat.le_refl _) _))

    | true =>
      have HP := Lib.hid hP; clear hP
      go_enter Try.func26, Try.ntmps26
      go_wp2_with fail
      refine (refCopy_n _ _ _ r _ rfl (hbt.later (below_alloc (below_alloc (Below.refl _ _) _) _)) (by omega)).mono ?_
      rintro e w2 ⟨v2, rfl, ho2, hb2⟩
      obtain ⟨A2, c2, rfl, _, _, _⟩ := ho2.shape
      have HBL := Lib.hid hb2
      have HO := Lib.hid ho2
      obtain ⟨hcl, hf⟩ := bcell hb2
      have hz : W.heap.size + 2 ≤ w2.heap.size := by have := hb2.size; simp at this; omega
      have hc0 : w2.cell? ⟨W.heap.size, 0, none⟩ = some (.int .i64 0) := by rw [hcl _ _ (by simp; omega)]; simp [go_sem, World.cell?_alloc_past, World.cell?_alloc_at]
      have hc1 : w2.cell? ⟨W.heap.size, 1, none⟩ = some (.int .i64 0) := by rw [hcl _ _ (by simp; omega)]; simp [go_sem, World.cell?_alloc_past, World.cell?_alloc_at]
      have hc2 : w2.cell? ⟨W.heap.size, 2, none⟩ = some (.slice none 0 0) := by rw [hcl _ _ (by simp; omega)]; simp [go_sem, World.cell?_alloc_past, World.cell?_alloc_at]
      clear hb2 ho2 hbt hx hb
      go_wp2_with fail
      refine (refRight_any (3) (1) A2 r.length c2 hrl _).mono ?_
      rw [HP.out]
      rintro e w3 ⟨rfl, hw3⟩
      have hb3 : Below (w2.setCell ⟨W.heap.size + 1, 2, none⟩ (.slice A2 r.length c2)).heap.size (w2.setCell ⟨W.heap.size + 1, 2, none⟩ (.slice A2 r.length c2)) w3 := by rw [hw3]; exact below_alloc (Below.refl _ _) _
      have hm3 : Mid (W.heap.size + 2) w2 w3 := by rw [hw3]; exact Mid.alloc ((Mid.refl _ _).setCell (p := ⟨W.heap.size + 1, 2, none⟩) (by simp) _) _
      have hb4 : Below W.heap.size W w3 := by rw [hw3]; exact below_alloc ((below_next (below_alloc (below_alloc (Below.refl W.heap.size W) _) _) HBL.out).setCell (p := ⟨W.heap.size + 1, 2, none⟩) (by simp) _) _
      clear hw3
      have HB3 := Lib.hid hb4
      have HM3 := Lib.hid hm3
      obtain ⟨hcl3, hf3⟩ := bcell hb3
      have he0 : w2.cell? ⟨W.heap.size + 1, 0, none⟩ = some (.int .i64 (3)) := by rw [hcl _ _ (by simp)]; simp [go_sem]
      have he1 : w2.cell? ⟨W.heap.size + 1, 1, none⟩ = some (.int .i64 (1)) := by rw [hcl _ _ (by simp)]; simp [go_sem]
      have he2 : w2.cell? ⟨W.heap.size + 1, 2, none⟩ = some (.slice none 0 0) := by rw [hcl _ _ (by simp)]; simp [go_sem]
      have hd0 : w3.cell? ⟨W.heap.size, 0, none⟩ = some (.int .i64 0) := by rw [hcl3 _ _ (by simp [World.setCell]; omega)]; simp [go_sem, hc0]
      have hd1 : w3.cell? ⟨W.heap.size, 1, none⟩ = some (.int .i64 0) := by rw [hcl3 _ _ (by simp [World.setCell]; omega)]; simp [go_sem, hc1]
      have hd2 : w3.cell? ⟨W.heap.size, 2, none⟩ = some (.slice none 0 0) := by rw [hcl3 _ _ (by simp [World.setCell]; omega)]; simp [go_sem, hc2]
      have hg0 : w3.cell? ⟨W.heap.size + 1, 0, none⟩ = some (.int .i64 (3)) := by rw [hcl3 _ _ (by simp [World.setCell]; omega)]; simp [go_sem, he0]
      have hg1 : w3.cell? ⟨W.heap.size + 1, 1, none⟩ = some (.int .i64 (1)) := by rw [hcl3 _ _ (by simp [World.setCell]; omega)]; simp [go_sem, he1]
      have hg2 : w3.cell? ⟨W.heap.size + 1, 2, none⟩ = some (.slice A2 r.length c2) := by rw [hcl3 _ _ (by simp [World.setCell]; omega)]; simp [go_sem, he2]
      have hk0 : w3.frozen? ⟨W.heap.size, 0, none⟩ = false := by rw [hf3 _ _ (by simp [World.setCell]; omega)]; simp [go_sem]; rw [hf _ _ (by simp; omega)]; simp [go_sem]
      have hk1 : w3.frozen? ⟨W.heap.size, 1, none⟩ = false := by rw [hf3 _ _ (by simp [World.setCell]; omega)]; simp [go_sem]; rw [hf _ _ (by simp; omega)]; simp [go_sem]
      have hk2 : w3.frozen? ⟨W.heap.size, 2, none⟩ = false := by rw [hf3 _ _ (by simp [World.setCell]; omega)]; simp [go_sem]; rw [hf _ _ (by simp; omega)]; simp [go_sem]
      clear hb3 hm3 hb4 hcl3 hf3 hcl hf he0 he1 he2 hc0 hc1 hc2
      go_wp2
      have HO' := HO.out.mono (base' := W.heap.size + 2) (by simp)
      exact bodyPost_ret (v := .tuple #[.agg #[.int .i64 (3), .int .i64 (1), .slice A2 r.length c2], .int .i64 0]) (by simp [results, Try.results26, go_sem, hd0, hd1, hd2]) rfl (gh_yes HP.out (own_mid HO' (((HM3.out.setCell (p := ⟨W.heap.size, 0, none⟩) (by simp) _).setCell (p := ⟨W.heap.size, 1, none⟩) (by simp) _).setCell (p := ⟨W.heap.size, 2, none⟩) (by simp) _)).text (((HB3.out.setCell (p := ⟨W.heap.size, 0, none⟩) (Nat.le_refl _) _).setCell (p := ⟨W.heap.size, 1, none⟩) (Nat.le_refl _) _).setCell (p := ⟨W.heap.size, 2, none⟩) (Nat.le_refl _) _))

set_option maxHeartbeats 4000000 in
theorem refGet_6 (b off cap : Nat) (r : List UInt8) (W : World) (hc : r.length + 1 ≤ cap + 1) (_ : cap + 1 ≤ maxLen) (hl : r.length + 1 ≤ 140737488355328) (hb : b < W.heap.size) (hx : W.cell? ⟨b, off, none⟩ = some (.int .u8 6)) (hbt : Bytes W W.heap.size (some ⟨b, off + 1, none⟩) r) :
    Calls Try.prog 26 #[.slice (some ⟨b, off, none⟩) (r.length + 1) (cap + 1)] W (GivesH W (4) (0) r) := by
  have hrl : r.length ≤ maxLen := by unfold maxLen; omega
  rcases Nat.eq_zero_or_pos r.length with h0 | h0
  · obtain rfl : r = [] := List.eq_nil_of_length_eq_zero h0
    clear hbt h0
    cases hP : prOk (4) (0) 0 with
    | false =>
      have HP := Lib.hid hP
      have HP' := Lib.hid (show prOk (4) (0) ([] : List UInt8).length = false from hP)
      clear hP
      go_enter Try.func26, Try.ntmps26
      go_wp2_with fail
      refine (refRight_any (4) (0) none 0 0 (by simp [maxLen]) _).mono ?_
      rw [HP.out]
      rintro e w3 ⟨rfl, rfl⟩
      go_wp2
      exact bodyPost_ret (v := .tuple #[.agg #[.int .i64 (0), .int .i64 (0), .slice none 0 0], .int .i64 130]) (by simp [results, Try.results26, go_sem]) rfl (gh_no HP'.out (below_alloc (below_alloc (below_alloc (Below.refl _ _) _) _) _))
    | true =>
      have HP := Lib.hid hP
      have HP' := Lib.hid (show prOk (4) (0) ([] : List UInt8).length = true from hP)
      clear hP
      go_enter Try.func26, Try.ntmps26
      go_wp2_with fail
      refine (refRight_any (4) (0) none 0 0 (by simp [maxLen]) _).mono ?_
      rw [HP.out]
      rintro e w3 ⟨rfl, rfl⟩
      go_wp2
      exact bodyPost_ret (v := .tuple #[.agg #[.int .i64 (4), .int .i64 (0), .slice none 0 0], .int .i64 0]) (by simp [results, Try.results26, go_sem]) rfl (gh_yes HP'.out (IsText.nil _) (below_alloc (below_alloc (below_alloc (Below.refl _ _) _) _) _))
  · have h1 : (1 : Int) < (r.length : Int) + 1 := by omega
    clear h0
    cases hP : prOk (4) (0) r.length with
    | false =>
      have HP := Lib.hid hP; clear hP
      go_enter Try.func26, Try.ntmps26
      go_wp2_with fail
      refine (refCopy_n _ _ _ r _ rfl (hbt.later (below_alloc (below_alloc (Below.refl _ _) _) _)) (by omega)).mono ?_
      rintro e w2 ⟨v2, rfl, ho2, hb2⟩
      obtain ⟨A2, c2, rfl, _, _, _⟩ := ho2.shape
      have HBL := Lib.hid hb2
      have HO := Lib.hid ho2
      obtain ⟨hcl, hf⟩ := bcell hb2
      have hz : W.heap.size + 2 ≤ w2.heap.size := by have := hb2.size; simp at this; omega
      have hc0 : w2.cell? ⟨W.heap.size, 0, none⟩ = some (.int .i64 0) := by rw [hcl _ _ (by simp; omega)]; simp [go_sem, World.cell?_alloc_past, World.cell?_alloc_at]
      have hc1 : w2.cell? ⟨W.heap.size, 1, none⟩ = some (.int .i64 0) := by rw [hcl _ _ (by simp; omega)]; simp [go_sem, World.cell?_alloc_past, World.cell?_alloc_at]
      have hc2 : w2.cell? ⟨W.heap.size, 2, none⟩ = some (.slice none 0 0) := by rw [hcl _ _ (by simp; omega)]; simp [go_sem, World.cell?_alloc_past, World.cell?_alloc_at]
      clear hb2 ho2 hbt hx hb
      go_wp2_with fail
      refine (refRight_any (4) (0) A2 r.length c2 hrl _).mono ?_
      rw [HP.out]
      rintro e w3 ⟨rfl, hw3⟩
      have hb3 : Below (w2.setCell ⟨W.heap.size + 1, 2, none⟩ (.slice A2 r.length c2)).heap.size (w2.setCell ⟨W.heap.size + 1, 2, none⟩ (.slice A2 r.length c2)) w3 := by rw [hw3]; exact below_alloc (Below.refl _ _) _
      have hm3 : Mid (W.heap.size + 2) w2 w3 := by rw [hw3]; exact Mid.alloc ((Mid.refl _ _).setCell (p := ⟨W.heap.size + 1, 2, none⟩) (by simp) _) _
      have hb4 : Below W.heap.size W w3 := by rw [hw3]; exact below_alloc ((below_next (below_alloc (below_alloc (Below.refl W.heap.size W) _) _) HBL.out).setCell (p := ⟨W.heap.size + 1, 2, none⟩) (by simp) _) _
      clear hw3
      have HB3 := Lib.hid hb4
      have HM3 := Lib.hid hm3
      obtain ⟨hcl3, hf3⟩ := bcell hb3
      have he0 : w2.cell? ⟨W.heap.size + 1, 0, none⟩ = some (.int .i64 (4)) := by rw [hcl _ _ (by simp)]; simp [go_sem]
      have he1 : w2.cell? ⟨W.heap.size + 1, 1, none⟩ = some (.int .i64 (0)) := by rw [hcl _ _ (by simp)]; simp [go_sem]
      have he2 : w2.cell? ⟨W.heap.size + 1, 2, none⟩ = some (.slice none 0 0) := by rw [hcl _ _ (by simp)]; simp [go_sem]
      have hd0 : w3.cell? ⟨W.heap.size, 0, none⟩ = some (.int .i64 0) := by rw [hcl3 _ _ (by simp [World.setCell]; omega)]; simp [go_sem, hc0]
      have hd1 : w3.cell? ⟨W.heap.size, 1, none⟩ = some (.int .i64 0) := by rw [hcl3 _ _ (by simp [World.setCell]; omega)]; simp [go_sem, hc1]
      have hd2 : w3.cell? ⟨W.heap.size, 2, none⟩ = some (.slice none 0 0) := by rw [hcl3 _ _ (by simp [World.setCell]; omega)]; simp [go_sem, hc2]
      have hg0 : w3.cell? ⟨W.heap.size + 1, 0, none⟩ = some (.int .i64 (4)) := by rw [hcl3 _ _ (by simp [World.setCell]; omega)]; simp [go_sem, he0]
      have hg1 : w3.cell? ⟨W.heap.size + 1, 1, none⟩ = some (.int .i64 (0)) := by rw [hcl3 _ _ (by simp [World.setCell]; omega)]; simp [go_sem, he1]
      have hg2 : w3.cell? ⟨W.heap.size + 1, 2, none⟩ = some (.slice A2 r.length c2) := by rw [hcl3 _ _ (by simp [World.setCell]; omega)]; simp [go_sem, he2]
      have hk0 : w3.frozen? ⟨W.heap.size, 0, none⟩ = false := by rw [hf3 _ _ (by simp [World.setCell]; omega)]; simp [go_sem]; rw [hf _ _ (by simp; omega)]; simp [go_sem]
      have hk1 : w3.frozen? ⟨W.heap.size, 1, none⟩ = false := by rw [hf3 _ _ (by simp [World.setCell]; omega)]; simp [go_sem]; rw [hf _ _ (by simp; omega)]; simp [go_sem]
      have hk2 : w3.frozen? ⟨W.heap.size, 2, none⟩ = false := by rw [hf3 _ _ (by simp [World.setCell]; omega)]; simp [go_sem]; rw [hf _ _ (by simp; omega)]; simp [go_sem]
      clear hb3 hm3 hb4 hcl3 hf3 hcl hf he0 he1 he2 hc0 hc1 hc2
      go_wp2
      have HO' := HO.out.mono (base' := W.heap.size + 2) (by simp)
      exact bodyPost_ret (v := .tuple #[.agg #[.int .i64 (0), .int .i64 (0), .slice none 0 0], .int .i64 130]) (by simp [results, Try.results26, go_sem, hd0, hd1, hd2]) rfl (gh_no HP.out (((HB3.out.setCell (p := ⟨W.heap.size, 0, none⟩) (Nat.le_refl _) _).setCell (p := ⟨W.heap.size, 1, none⟩) (Nat.le_refl _) _).setCell (p := ⟨W.heap.size, 2, none⟩) (Nat.le_refl _) _))

    | true =>
      have HP := Lib.hid hP; clear hP
      go_enter Try.func26, Try.ntmps26
      go_wp2_with fail
      refine (refCopy_n _ _ _ r _ rfl (hbt.later (below_alloc (below_alloc (Below.refl _ _) _) _)) (by omega)).mono ?_
      rintro e w2 ⟨v2, rfl, ho2, hb2⟩
      obtain ⟨A2, c2, rfl, _, _, _⟩ := ho2.shape
      have HBL := Lib.hid hb2
      have HO := Lib.hid ho2
      obtain ⟨hcl, hf⟩ := bcell hb2
      have hz : W.heap.size + 2 ≤ w2.heap.size := by have := hb2.size; simp at this; omega
      have hc0 : w2.cell? ⟨W.heap.size, 0, none⟩ = some (.int .i64 0) := by rw [hcl _ _ (by simp; omega)]; simp [go_sem, World.cell?_alloc_past, World.cell?_alloc_at]
      have hc1 : w2.cell? ⟨W.heap.size, 1, none⟩ = some (.int .i64 0) := by rw [hcl _ _ (by simp; omega)]; simp [go_sem, World.cell?_alloc_past, World.cell?_alloc_at]
      have hc2 : w2.cell? ⟨W.heap.size, 2, none⟩ = some (.slice none 0 0) := by rw [hcl _ _ (by simp; omega)]; simp [go_sem, World.cell?_alloc_past, World.cell?_alloc_at]
      clear hb2 ho2 hbt hx hb
      go_wp2_with fail
      refine (refRight_any (4) (0) A2 r.length c2 hrl _).mono ?_
      rw [HP.out]
      rintro e w3 ⟨rfl, hw3⟩
      have hb3 : Below (w2.setCell ⟨W.heap.size + 1, 2, none⟩ (.slice A2 r.length c2)).heap.size (w2.setCell ⟨W.heap.size + 1, 2, none⟩ (.slice A2 r.length c2)) w3 := by rw [hw3]; exact below_alloc (Below.refl _ _) _
      have hm3 : Mid (W.heap.size + 2) w2 w3 := by rw [hw3]; exact Mid.alloc ((Mid.refl _ _).setCell (p := ⟨W.heap.size + 1, 2, none⟩) (by simp) _) _
      have hb4 : Below W.heap.size W w3 := by rw [hw3]; exact below_alloc ((below_next (below_alloc (below_alloc (Below.refl W.heap.size W) _) _) HBL.out).setCell (p := ⟨W.heap.size + 1, 2, none⟩) (by simp) _) _
      clear hw3
      have HB3 := Lib.hid hb4
      have HM3 := Lib.hid hm3
      obtain ⟨hcl3, hf3⟩ := bcell hb3
      have he0 : w2.cell? ⟨W.heap.size + 1, 0, none⟩ = some (.int .i64 (4)) := by rw [hcl _ _ (by simp)]; simp [go_sem]
      have he1 : w2.cell? ⟨W.heap.size + 1, 1, none⟩ = some (.int .i64 (0)) := by rw [hcl _ _ (by simp)]; simp [go_sem]
      have he2 : w2.cell? ⟨W.heap.size + 1, 2, none⟩ = some (.slice none 0 0) := by rw [hcl _ _ (by simp)]; simp [go_sem]
      have hd0 : w3.cell? ⟨W.heap.size, 0, none⟩ = some (.int .i64 0) := by rw [hcl3 _ _ (by simp [World.setCell]; omega)]; simp [go_sem, hc0]
      have hd1 : w3.cell? ⟨W.heap.size, 1, none⟩ = some (.int .i64 0) := by rw [hcl3 _ _ (by simp [World.setCell]; omega)]; simp [go_sem, hc1]
      have hd2 : w3.cell? ⟨W.heap.size, 2, none⟩ = some (.slice none 0 0) := by rw [hcl3 _ _ (by simp [World.setCell]; omega)]; simp [go_sem, hc2]
      have hg0 : w3.cell? ⟨W.heap.size + 1, 0, none⟩ = some (.int .i64 (4)) := by rw [hcl3 _ _ (by simp [World.setCell]; omega)]; simp [go_sem, he0]
      have hg1 : w3.cell? ⟨W.heap.size + 1, 1, none⟩ = some (.int .i64 (0)) := by rw [hcl3 _ _ (by simp [World.setCell]; omega)]; simp [go_sem, he1]
      have hg2 : w3.cell? ⟨W.heap.size + 1, 2, none⟩ = some (.slice A2 r.length c2) := by rw [hcl3 _ _ (by simp [World.setCell]; omega)]; simp [go_sem, he2]
      have hk0 : w3.frozen? ⟨W.heap.size, 0, none⟩ = false := by rw [hf3 _ _ (by simp [World.setCell]; omega)]; simp [go_sem]; rw [hf _ _ (by simp; omega)]; simp [go_sem]
      have hk1 : w3.frozen? ⟨W.heap.size, 1, none⟩ = false := by rw [hf3 _ _ (by simp [World.setCell]; omega)]; simp [go_sem]; rw [hf _ _ (by simp; omega)]; simp [go_sem]
      have hk2 : w3.frozen? ⟨W.heap.size, 2, none⟩ = false := by rw [hf3 _ _ (by simp [World.setCell]; omega)]; simp [go_sem]; rw [hf _ _ (by simp; omega)]; simp [go_sem]
      clear hb3 hm3 hb4 hcl3 hf3 hcl hf he0 he1 he2 hc0 hc1 hc2
      go_wp2
      have HO' := HO.out.mono (base' := W.heap.size + 2) (by simp)
      exact bodyPost_ret (v := .tuple #[.agg #[.int .i64 (4), .int .i64 (0), .slice A2 r.length c2], .int .i64 0]) (by simp [results, Try.results26, go_sem, hd0, hd1, hd2]) rfl (gh_yes HP.out (own_mid HO' (((HM3.out.setCell (p := ⟨W.heap.size, 0, none⟩) (by simp) _).setCell (p := ⟨W.heap.size, 1, none⟩) (by simp) _).setCell (p := ⟨W.heap.size, 2, none⟩) (by simp) _)).text (((HB3.out.setCell (p := ⟨W.heap.size, 0, none⟩) (Nat.le_refl _) _).setCell (p := ⟨W.heap.size, 1, none⟩) (Nat.le_refl _) _).setCell (p := ⟨W.heap.size, 2, none⟩) (Nat.le_refl _) _))

set_option maxHeartbeats 4000000 in
theorem refGet_7 (b off cap : Nat) (r : List UInt8) (W : World) (hc : r.length + 1 ≤ cap + 1) (_ : cap + 1 ≤ maxLen) (hl : r.length + 1 ≤ 140737488355328) (hb : b < W.heap.size) (hx : W.cell? ⟨b, off, none⟩ = some (.int .u8 7)) (hbt : Bytes W W.heap.size (some ⟨b, off + 1, none⟩) r) :
    Calls Try.prog 26 #[.slice (some ⟨b, off, none⟩) (r.length + 1) (cap + 1)] W (GivesH W (4) (1) r) := by
  have hrl : r.length ≤ maxLen := by unfold maxLen; omega
  rcases Nat.eq_zero_or_pos r.length with h0 | h0
  · obtain rfl : r = [] := List.eq_nil_of_length_eq_zero h0
    clear hbt h0
    cases hP : prOk (4) (1) 0 with
    | false =>
      have HP := Lib.hid hP
      have HP' := Lib.hid (show prOk (4) (1) ([] : List UInt8).length = false from hP)
      clear hP
      go_enter Try.func26, Try.ntmps26
      go_wp2_with fail
      refine (refRight_any (4) (1) none 0 0 (by simp [maxLen]) _).mono ?_
      rw [HP.out]
      rintro e w3 ⟨rfl, rfl⟩
      go_wp2
      exact bodyPost_ret (v := .tuple #[.agg #[.int .i64 (0), .int .i64 (0), .slice none 0 0], .int .i64 130]) (by simp [results, Try.results26, go_sem]) rfl (gh_no HP'.out (below_alloc (below_alloc (below_alloc (Below.refl _ _) _) _) _))
    | true =>
      have HP := Lib.hid hP
      have HP' := Lib.hid (show prOk (4) (1) ([] : List UInt8).length = true from hP)
      clear hP
      go_enter Try.func26, Try.ntmps26
      go_wp2_with fail
      refine (refRight_any (4) (1) none 0 0 (by simp [maxLen]) _).mono ?_
      rw [HP.out]
      rintro e w3 ⟨rfl, rfl⟩
      go_wp2
      exact bodyPost_ret (v := .tuple #[.agg #[.int .i64 (4), .int .i64 (1), .slice none 0 0], .int .i64 0]) (by simp [results, Try.results26, go_sem]) rfl (gh_yes HP'.out (IsText.nil _) (below_alloc (below_alloc (below_alloc (Below.refl _ _) _) _) _))
  · have h1 : (1 : Int) < (r.length : Int) + 1 := by omega
    clear h0
    cases hP : prOk (4) (1) r.length with
    | false =>
      have HP := Lib.hid hP; clear hP
      go_enter Try.func26, Try.ntmps26
      go_wp2_with fail
      refine (refCopy_n _ _ _ r _ rfl (hbt.later (below_alloc (below_alloc (Below.refl _ _) _) _)) (by omega)).mono ?_
      rintro e w2 ⟨v2, rfl, ho2, hb2⟩
      obtain ⟨A2, c2, rfl, _, _, _⟩ := ho2.shape
      have HBL := Lib.hid hb2
      have HO := Lib.hid ho2
      obtain ⟨hcl, hf⟩ := bcell hb2
      have hz : W.heap.size + 2 ≤ w2.heap.size := by have := hb2.size; simp at this; omega
      have hc0 : w2.cell? ⟨W.heap.size, 0, none⟩ = some (.int .i64 0) := by rw [hcl _ _ (by simp; omega)]; simp [go_sem, World.cell?_alloc_past, World.cell?_alloc_at]
      have hc1 : w2.cell? ⟨W.heap.size, 1, none⟩ = some (.int .i64 0) := by rw [hcl _ _ (by simp; omega)]; simp [go_sem, World.cell?_alloc_past, World.cell?_alloc_at]
      have hc2 : w2.cell? ⟨W.heap.size, 2, none⟩ = some (.slice none 0 0) := by rw [hcl _ _ (by simp; omega)]; simp [go_sem, World.cell?_alloc_past, World.cell?_alloc_at]
      clear hb2 ho2 hbt hx hb
      go_wp2_with fail
      refine (refRight_any (4) (1) A2 r.length c2 hrl _).mono ?_
      rw [HP.out]
      rintro e w3 ⟨rfl, hw3⟩
      have hb3 : Below (w2.setCell ⟨W.heap.size + 1, 2, none⟩ (.slice A2 r.length c2)).heap.size (w2.setCell ⟨W.heap.size + 1, 2, none⟩ (.slice A2 r.length c2)) w3 := by rw [hw3]; exact below_alloc (Below.refl _ _) _
      have hm3 : Mid (W.heap.size + 2) w2 w3 := by rw [hw3]; exact Mid.alloc ((Mid.refl _ _).setCell (p := ⟨W.heap.size + 1, 2, none⟩) (by simp) _) _
      have hb4 : Below W.heap.size W w3 := by rw [hw3]; exact below_alloc ((below_next (below_alloc (below_alloc (Below.refl W.heap.size W) _) _) HBL.out).setCell (p := ⟨W.heap.size + 1, 2, none⟩) (by simp) _) _
      clear hw3
      have HB3 := Lib.hid hb4
      have HM3 := Lib.hid hm3
      obtain ⟨hcl3, hf3⟩ := bcell hb3
      have he0 : w2.cell? ⟨W.heap.size + 1, 0, none⟩ = some (.int .i64 (4)) := by rw [hcl _ _ (by simp)]; simp [go_sem]
      have he1 : w2.cell? ⟨W.heap.size + 1, 1, none⟩ = some (.int .i64 (1)) := by rw [hcl _ _ (by simp)]; simp [go_sem]
      have he2 : w2.cell? ⟨W.heap.size + 1, 2, none⟩ = some (.slice none 0 0) := by rw [hcl _ _ (by simp)]; simp [go_sem]
      have hd0 : w3.cell? ⟨W.heap.size, 0, none⟩ = some (.int .i64 0) := by rw [hcl3 _ _ (by simp [World.setCell]; omega)]; simp [go_sem, hc0]
      have hd1 : w3.cell? ⟨W.heap.size, 1, none⟩ = some (.int .i64 0) := by rw [hcl3 _ _ (by simp [World.setCell]; omega)]; simp [go_sem, hc1]
      have hd2 : w3.cell? ⟨W.heap.size, 2, none⟩ = some (.slice none 0 0) := by rw [hcl3 _ _ (by simp [World.setCell]; omega)]; simp [go_sem, hc2]
      have hg0 : w3.cell? ⟨W.heap.size + 1, 0, none⟩ = some (.int .i64 (4)) := by rw [hcl3 _ _ (by simp [World.setCell]; omega)]; simp [go_sem, he0]
      have hg1 : w3.cell? ⟨W.heap.size + 1, 1, none⟩ = some (.int .i64 (1)) := by rw [hcl3 _ _ (by simp [World.setCell]; omega)]; simp [go_sem, he1]
      have hg2 : w3.cell? ⟨W.heap.size + 1, 2, none⟩ = some (.slice A2 r.length c2) := by rw [hcl3 _ _ (by simp [World.setCell]; omega)]; simp [go_sem, he2]
      have hk0 : w3.frozen? ⟨W.heap.size, 0, none⟩ = false := by rw [hf3 _ _ (by simp [World.setCell]; omega)]; simp [go_sem]; rw [hf _ _ (by simp; omega)]; simp [go_sem]
      have hk1 : w3.frozen? ⟨W.heap.size, 1, none⟩ = false := by rw [hf3 _ _ (by simp [World.setCell]; omega)]; simp [go_sem]; rw [hf _ _ (by simp; omega)]; simp [go_sem]
      have hk2 : w3.frozen? ⟨W.heap.size, 2, none⟩ = false := by rw [hf3 _ _ (by simp [World.setCell]; omega)]; simp [go_sem]; rw [hf _ _ (by simp; omega)]; simp [go_sem]
      clear hb3 hm3 hb4 hcl3 hf3 hcl hf he0 he1 he2 hc0 hc1 hc2
      go_wp2
      have HO' := HO.out.mono (base' := W.heap.size + 2) (by simp)
      exact bodyPost_ret (v := .tuple #[.agg #[.int .i64 (0), .int .i64 (0), .slice none 0 0], .int .i64 130]) (by simp [results, Try.results26, go_sem, hd0, hd1, hd2]) rfl (gh_no HP.out (((HB3.out.setCell (p := ⟨W.heap.size, 0, none⟩) (Nat.le_refl _) _).setCell (p := ⟨W.heap.size, 1, none⟩) (Nat.le_refl _) _).setCell (p := ⟨W.heap.size, 2, none⟩) (Nat.le_refl _) _))

    | true =>
      have HP := Lib.hid hP; clear hP
      go_enter Try.func26, Try.ntmps26
      go_wp2_with fail
      refine (refCopy_n _ _ _ r _ rfl (hbt.later (below_alloc (below_alloc (Below.refl _ _) _) _)) (by omega)).mono ?_
      rintro e w2 ⟨v2, rfl, ho2, hb2⟩
      obtain ⟨A2, c2, rfl, _, _, _⟩ := ho2.shape
      have HBL := Lib.hid hb2
      have HO := Lib.hid ho2
      obtain ⟨hcl, hf⟩ := bcell hb2
      have hz : W.heap.size + 2 ≤ w2.heap.size := by have := hb2.size; simp at this; omega
      have hc0 : w2.cell? ⟨W.heap.size, 0, none⟩ = some (.int .i64 0) := by rw [hcl _ _ (by simp; omega)]; simp [go_sem, World.cell?_alloc_past, World.cell?_alloc_at]
      have hc1 : w2.cell? ⟨W.heap.size, 1, none⟩ = some (.int .i64 0) := by rw [hcl _ _ (by simp; omega)]; simp [go_sem, World.cell?_alloc_past, World.cell?_alloc_at]
      have hc2 : w2.cell? ⟨W.heap.size, 2, none⟩ = some (.slice none 0 0) := by rw [hcl _ _ (by simp; omega)]; simp [go_sem, World.cell?_alloc_past, World.cell?_alloc_at]
      clear hb2 ho2 hbt hx hb
      go_wp2_with fail
      refine (refRight_any (4) (1) A2 r.length c2 hrl _).mono ?_
      rw [HP.out]
      rintro e w3 ⟨rfl, hw3⟩
      have hb3 : Below (w2.setCell ⟨W.heap.size + 1, 2, none⟩ (.slice A2 r.length c2)).heap.size (w2.setCell ⟨W.heap.size + 1, 2, none⟩ (.slice A2 r.length c2)) w3 := by rw [hw3]; exact below_alloc (Below.refl _ _) _
      have hm3 : Mid (W.heap.size + 2) w2 w3 := by rw [hw3]; exact Mid.alloc ((Mid.refl _ _).setCell (p := ⟨W.heap.size + 1, 2, none⟩) (by simp) _) _
      have hb4 : Below W.heap.size W w3 := by rw [hw3]; exact below_alloc ((below_next (below_alloc (below_alloc (Below.refl W.heap.size W) _) _) HBL.out).setCell (p := ⟨W.heap.size + 1, 2, none⟩) (by simp) _) _
      clear hw3
      have HB3 := Lib.hid hb4
      have HM3 := Lib.hid hm3
      obtain ⟨hcl3, hf3⟩ := bcell hb3
      have he0 : w2.cell? ⟨W.heap.size + 1, 0, none⟩ = some (.int .i64 (4)) := by rw [hcl _ _ (by simp)]; simp [go_sem]
      have he1 : w2.cell? ⟨W.heap.size + 1, 1, none⟩ = some (.int .i64 (1)) := by rw [hcl _ _ (by simp)]; simp [go_sem]
      have he2 : w2.cell? ⟨W.heap.size + 1, 2, none⟩ = some (.slice none 0 0) := by rw [hcl _ _ (by simp)]; simp [go_sem]
      have hd0 : w3.cell? ⟨W.heap.size, 0, none⟩ = some (.int .i64 0) := by rw [hcl3 _ _ (by simp [World.setCell]; omega)]; simp [go_sem, hc0]
      have hd1 : w3.cell? ⟨W.heap.size, 1, none⟩ = some (.int .i64 0) := by rw [hcl3 _ _ (by simp [World.setCell]; omega)]; simp [go_sem, hc1]
      have hd2 : w3.cell? ⟨W.heap.size, 2, none⟩ = some (.slice none 0 0) := by rw [hcl3 _ _ (by simp [World.setCell]; omega)]; simp [go_sem, hc2]
      have hg0 : w3.cell? ⟨W.heap.size + 1, 0, none⟩ = some (.int .i64 (4)) := by rw [hcl3 _ _ (by simp [World.setCell]; omega)]; simp [go_sem, he0]
      have hg1 : w3.cell? ⟨W.heap.size + 1, 1, none⟩ = some (.int .i64 (1)) := by rw [hcl3 _ _ (by simp [World.setCell]; omega)]; simp [go_sem, he1]
      have hg2 : w3.cell? ⟨W.heap.size + 1, 2, none⟩ = some (.slice A2 r.length c2) := by rw [hcl3 _ _ (by simp [World.setCell]; omega)]; simp [go_sem, he2]
      have hk0 : w3.frozen? ⟨W.heap.size, 0, none⟩ = false := by rw [hf3 _ _ (by simp [World.setCell]; omega)]; simp [go_sem]; rw [hf _ _ (by simp; omega)]; simp [go_sem]
      have hk1 : w3.frozen? ⟨W.heap.size, 1, none⟩ = false := by rw [hf3 _ _ (by simp [World.setCell]; omega)]; simp [go_sem]; rw [hf _ _ (by simp; omega)]; simp [go_sem]
      have hk2 : w3.frozen? ⟨W.heap.size, 2, none⟩ = false := by rw [hf3 _ _ (by simp [World.setCell]; omega)]; simp [go_sem]; rw [hf _ _ (by simp; omega)]; simp [go_sem]
      clear hb3 hm3 hb4 hcl3 hf3 hcl hf he0 he1 he2 hc0 hc1 hc2
      go_wp2
      have HO' := HO.out.mono (base' := W.heap.size + 2) (by simp)
      exact bodyPost_ret (v := .tuple #[.agg #[.int .i64 (4), .int .i64 (1), .slice A2 r.length c2], .int .i64 0]) (by simp [results, Try.results26, go_sem, hd0, hd1, hd2]) rfl (gh_yes HP.out (own_mid HO' (((HM3.out.setCell (p := ⟨W.heap.size, 0, none⟩) (by simp) _).setCell (p := ⟨W.heap.size, 1, none⟩) (by simp) _).setCell (p := ⟨W.heap.size, 2, none⟩) (by simp) _)).text (((HB3.out.setCell (p := ⟨W.heap.size, 0, none⟩) (Nat.le_refl _) _).setCell (p := ⟨W.heap.size, 1, none⟩) (Nat.le_refl _) _).setCell (p := ⟨W.heap.size, 2, none⟩) (Nat.le_refl _) _))

end Go.Proofs.Ytonjdkankegdaaa.Probe
