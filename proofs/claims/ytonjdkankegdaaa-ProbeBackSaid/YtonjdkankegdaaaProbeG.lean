
/- Layer 13 (probe): Get. -/
import Derived.Test.YtonjdkankegdaaaProbe
namespace Go.Proofs.Ytonjdkankegdaaa.Probe
open Go.RowKit Go.Proofs.Ytonjdkankegdaaa.Mem Go.Proofs.Ytonjdkankegdaaa.Oct Go.Proofs.Ytonjdkankegdaaa.Pkt

/-- what bytes say -/
def gOk : List UInt8 → Bool
  | [] => false
  | c :: r => ofB c.toNat && prOk (ofK c.toNat) (ofL c.toNat) r.length
def gK (b : List UInt8) : Int := if gOk b = true then ofK (byteAt b 0) else 0
def gL (b : List UInt8) : Int := if gOk b = true then ofL (byteAt b 0) else 0
def gD (b : List UInt8) : List UInt8 := if gOk b = true then b.drop 1 else []
def gE (b : List UInt8) : Int := if gOk b = true then 0 else 130

/-- what Get answers -/
def GivesP (w : World) (b : List UInt8) (e : Ending) (w' : World) : Prop := ∃ v, e = .returned (.tuple #[.agg #[.int .i64 (gK b), .int .i64 (gL b), v], .int .i64 (gE b)]) ∧ IsText w' v (gD b) ∧ Below w.heap.size w w'

theorem gOk_len {b : List UInt8} (h : gOk b = true) : b.length ≤ 65 := by
  cases b with
  | nil => simp [gOk] at h
  | cons c r =>
    simp only [gOk, Bool.and_eq_true] at h
    have := prOk_small h.2
    simpa using this

set_option maxHeartbeats 4000000 in
theorem Get_any (A : Option Addr) (cap : Nat) (l : List UInt8) (W : World) (hc : l.length ≤ cap) (hm : cap ≤ maxLen) (hl : l.length ≤ 140737488355328) (hA : Bytes W W.heap.size A l) :
    Calls Try.prog 25 #[.slice A l.length cap] W (GivesP W l) := by
  unfold GivesP gK gL gD gE
  cases l with
  | nil =>
    go_enter Try.func25, Try.ntmps25
    go_wp2
    exact bodyPost_ret (v := .tuple #[.agg #[.int .i64 0, .int .i64 0, .slice none 0 0], .int .i64 130]) (by simp [results, Try.results25, go_sem]) rfl ⟨_, rfl, IsText.nil _, below_alloc (Below.refl _ _) _⟩
  | cons c r =>
    obtain ⟨b, off, rfl, hb, hx⟩ := hA.at_ (k := 0) (by simp)
    have hbt : Bytes W W.heap.size (some ⟨b, off + 1, none⟩) r := hA.drop (k := 1) (by simp)
    simp only [List.length_cons] at hc hl ⊢
    have e0 : byteAt (c :: r) 0 = c.toNat := rfl
    rw [e0, Nat.add_zero] at hx
    rw [e0]
    have c0 : (0 : Int) ≤ c.toNat := by omega
    have c1 : (c.toNat : Int) ≤ 255 := by have := UInt8.toNat_lt c; omega
    generalize hn : (c.toNat : Int) = n at hx c0 c1 ⊢
    obtain ⟨cap, rfl⟩ : ∃ m, cap = m + 1 := ⟨cap - 1, by omega⟩
    unfold maxLen at hm
    have ho : gOk (c :: r) = (ofB n && prOk (ofK n) (ofL n) r.length) := by simp only [gOk, hn]
    rw [ho]
    clear hn ho hA e0
    cases hB : ofB n with
    | false =>
      have HB := Lib.hid hB; clear hB
      go_enter Try.func25, Try.ntmps25
      go_wp2_with fail
      refine (of_any n c0 c1 _).mono ?_
      rw [HB.out]
      rintro e w1 ⟨rfl, rfl⟩
      go_wp2_with fail
      all_goals (
        refine (Clone_n _ _ _ r _ rfl (by first | exact hbt.later (below_alloc (below_alloc (below_alloc (Below.refl _ _) _) _) _) | (obtain rfl : r = [] := List.eq_nil_of_length_eq_zero (by omega); exact Bytes.nil _ _ _)) (by omega)).mono ?_
        rintro e w2 ⟨v2, rfl, ho2, hb2⟩
        obtain ⟨A2, c2, rfl, _, _, _⟩ := ho2.shape
        have HBL := Lib.hid hb2
        have HO := Lib.hid ho2
        obtain ⟨hcl, hf⟩ := bcell hb2
        have hz : W.heap.size + 3 ≤ w2.heap.size := by have := hb2.size; simp at this; omega
        have hc0 : w2.cell? ⟨W.heap.size, 0, none⟩ = some (.int .i64 0) := by rw [hcl _ _ (by simp; omega)]; simp [go_sem, World.cell?_alloc_past, World.cell?_alloc_at]
        have hc1 : w2.cell? ⟨W.heap.size, 1, none⟩ = some (.int .i64 0) := by rw [hcl _ _ (by simp; omega)]; simp [go_sem, World.cell?_alloc_past, World.cell?_alloc_at]
        have hc2 : w2.cell? ⟨W.heap.size, 2, none⟩ = some (.slice none 0 0) := by rw [hcl _ _ (by simp; omega)]; simp [go_sem, World.cell?_alloc_past, World.cell?_alloc_at]
        clear hb2 ho2 hbt hx hb HB
        go_wp2
        exact bodyPost_ret (v := .tuple #[.agg #[.int .i64 0, .int .i64 0, .slice none 0 0], .int .i64 130]) (by simp [results, Try.results25, go_sem, hc0, hc1, hc2]) rfl ⟨_, rfl, IsText.nil _, (((((below_next (below_alloc (below_alloc (below_alloc (Below.refl W.heap.size W) _) _) _) HBL.out).setCell (p := ⟨W.heap.size + 2, 2, none⟩) (by simp) _).setCell (p := ⟨W.heap.size, 0, none⟩) (Nat.le_refl _) _).setCell (p := ⟨W.heap.size, 1, none⟩) (Nat.le_refl _) _).setCell (p := ⟨W.heap.size, 2, none⟩) (Nat.le_refl _) _)⟩)
    | true =>
      have hprm : r.length ≤ maxLen := by unfold maxLen; omega
      cases hP : prOk (ofK n) (ofL n) r.length with
      | false =>
        have HB := Lib.hid hB; clear hB
        have HP := Lib.hid hP; clear hP
        go_enter Try.func25, Try.ntmps25
        go_wp2_with fail
        refine (of_any n c0 c1 _).mono ?_
        rw [HB.out]
        rintro e w1 ⟨rfl, rfl⟩
        go_wp2_with fail
        all_goals (
          refine (Clone_n _ _ _ r _ rfl (by first | exact hbt.later (below_alloc (below_alloc (below_alloc (Below.refl _ _) _) _) _) | (obtain rfl : r = [] := List.eq_nil_of_length_eq_zero (by omega); exact Bytes.nil _ _ _)) (by omega)).mono ?_
          rintro e w2 ⟨v2, rfl, ho2, hb2⟩
          obtain ⟨A2, c2, rfl, _, _, _⟩ := ho2.shape
          have HBL := Lib.hid hb2
          have HO := Lib.hid ho2
          obtain ⟨hcl, hf⟩ := bcell hb2
          have hz : W.heap.size + 3 ≤ w2.heap.size := by have := hb2.size; simp at this; omega
          have hc0 : w2.cell? ⟨W.heap.size, 0, none⟩ = some (.int .i64 0) := by rw [hcl _ _ (by simp; omega)]; simp [go_sem, World.cell?_alloc_past, World.cell?_alloc_at]
          have hc1 : w2.cell? ⟨W.heap.size, 1, none⟩ = some (.int .i64 0) := by rw [hcl _ _ (by simp; omega)]; simp [go_sem, World.cell?_alloc_past, World.cell?_alloc_at]
          have hc2 : w2.cell? ⟨W.heap.size, 2, none⟩ = some (.slice none 0 0) := by rw [hcl _ _ (by simp; omega)]; simp [go_sem, World.cell?_alloc_past, World.cell?_alloc_at]
          clear hb2 ho2 hbt hx hb HB
          go_wp2_with fail
          refine (right_any (ofK n) (ofL n) A2 r.length c2 hprm _).mono ?_
          rw [HP.out]
          rintro e w3 ⟨rfl, hw3⟩
          have hb3 : Below (w2.setCell ⟨W.heap.size + 2, 2, none⟩ (.slice A2 r.length c2)).heap.size (w2.setCell ⟨W.heap.size + 2, 2, none⟩ (.slice A2 r.length c2)) w3 := by rw [hw3]; exact below_alloc (Below.refl _ _) _
          have hm3 : Mid (W.heap.size + 3) w2 w3 := by rw [hw3]; exact Mid.alloc ((Mid.refl _ _).setCell (p := ⟨W.heap.size + 2, 2, none⟩) (by simp) _) _
          have hb4 : Below W.heap.size W w3 := by rw [hw3]; exact below_alloc ((below_next (below_alloc (below_alloc (below_alloc (Below.refl W.heap.size W) _) _) _) HBL.out).setCell (p := ⟨W.heap.size + 2, 2, none⟩) (by simp) _) _
          clear hw3
          have HB3 := Lib.hid hb4
          have HM3 := Lib.hid hm3
          obtain ⟨hcl3, hf3⟩ := bcell hb3
          have he0 : w2.cell? ⟨W.heap.size + 2, 0, none⟩ = some (.int .i64 (ofK n)) := by rw [hcl _ _ (by simp)]; simp [go_sem]
          have he1 : w2.cell? ⟨W.heap.size + 2, 1, none⟩ = some (.int .i64 (ofL n)) := by rw [hcl _ _ (by simp)]; simp [go_sem]
          have he2 : w2.cell? ⟨W.heap.size + 2, 2, none⟩ = some (.slice none 0 0) := by rw [hcl _ _ (by simp)]; simp [go_sem]
          have hd0 : w3.cell? ⟨W.heap.size, 0, none⟩ = some (.int .i64 0) := by rw [hcl3 _ _ (by simp [World.setCell]; omega)]; simp [go_sem, hc0]
          have hd1 : w3.cell? ⟨W.heap.size, 1, none⟩ = some (.int .i64 0) := by rw [hcl3 _ _ (by simp [World.setCell]; omega)]; simp [go_sem, hc1]
          have hd2 : w3.cell? ⟨W.heap.size, 2, none⟩ = some (.slice none 0 0) := by rw [hcl3 _ _ (by simp [World.setCell]; omega)]; simp [go_sem, hc2]
          have hg0 : w3.cell? ⟨W.heap.size + 1 + 1, 0, none⟩ = some (.int .i64 (ofK n)) := by rw [hcl3 _ _ (by simp [World.setCell]; omega)]; simp [go_sem, he0]
          have hg1 : w3.cell? ⟨W.heap.size + 1 + 1, 1, none⟩ = some (.int .i64 (ofL n)) := by rw [hcl3 _ _ (by simp [World.setCell]; omega)]; simp [go_sem, he1]
          have hg2 : w3.cell? ⟨W.heap.size + 1 + 1, 2, none⟩ = some (.slice A2 r.length c2) := by rw [hcl3 _ _ (by simp [World.setCell]; omega)]; simp [go_sem, he2]
          have hk0 : w3.frozen? ⟨W.heap.size, 0, none⟩ = false := by rw [hf3 _ _ (by simp [World.setCell]; omega)]; simp [go_sem]; rw [hf _ _ (by simp; omega)]; simp [go_sem]
          have hk1 : w3.frozen? ⟨W.heap.size, 1, none⟩ = false := by rw [hf3 _ _ (by simp [World.setCell]; omega)]; simp [go_sem]; rw [hf _ _ (by simp; omega)]; simp [go_sem]
          have hk2 : w3.frozen? ⟨W.heap.size, 2, none⟩ = false := by rw [hf3 _ _ (by simp [World.setCell]; omega)]; simp [go_sem]; rw [hf _ _ (by simp; omega)]; simp [go_sem]
          clear hb3 hm3 hb4 hcl3 hf3 hcl hf he0 he1 he2 hc0 hc1 hc2
          go_wp2
          exact bodyPost_ret (v := .tuple #[.agg #[.int .i64 0, .int .i64 0, .slice none 0 0], .int .i64 130]) (by simp [results, Try.results25, go_sem, hd0, hd1, hd2]) rfl ⟨_, rfl, IsText.nil _, (((HB3.out.setCell (p := ⟨W.heap.size, 0, none⟩) (Nat.le_refl _) _).setCell (p := ⟨W.heap.size, 1, none⟩) (Nat.le_refl _) _).setCell (p := ⟨W.heap.size, 2, none⟩) (Nat.le_refl _) _)⟩)
      | true =>
        have HB := Lib.hid hB; clear hB
        have HP := Lib.hid hP; clear hP
        go_enter Try.func25, Try.ntmps25
        go_wp2_with fail
        refine (of_any n c0 c1 _).mono ?_
        rw [HB.out]
        rintro e w1 ⟨rfl, rfl⟩
        go_wp2_with fail
        all_goals (
          refine (Clone_n _ _ _ r _ rfl (by first | exact hbt.later (below_alloc (below_alloc (below_alloc (Below.refl _ _) _) _) _) | (obtain rfl : r = [] := List.eq_nil_of_length_eq_zero (by omega); exact Bytes.nil _ _ _)) (by omega)).mono ?_
          rintro e w2 ⟨v2, rfl, ho2, hb2⟩
          obtain ⟨A2, c2, rfl, _, _, _⟩ := ho2.shape
          have HBL := Lib.hid hb2
          have HO := Lib.hid ho2
          obtain ⟨hcl, hf⟩ := bcell hb2
          have hz : W.heap.size + 3 ≤ w2.heap.size := by have := hb2.size; simp at this; omega
          have hc0 : w2.cell? ⟨W.heap.size, 0, none⟩ = some (.int .i64 0) := by rw [hcl _ _ (by simp; omega)]; simp [go_sem, World.cell?_alloc_past, World.cell?_alloc_at]
          have hc1 : w2.cell? ⟨W.heap.size, 1, none⟩ = some (.int .i64 0) := by rw [hcl _ _ (by simp; omega)]; simp [go_sem, World.cell?_alloc_past, World.cell?_alloc_at]
          have hc2 : w2.cell? ⟨W.heap.size, 2, none⟩ = some (.slice none 0 0) := by rw [hcl _ _ (by simp; omega)]; simp [go_sem, World.cell?_alloc_past, World.cell?_alloc_at]
          clear hb2 ho2 hbt hx hb HB
          go_wp2_with fail
          refine (right_any (ofK n) (ofL n) A2 r.length c2 hprm _).mono ?_
          rw [HP.out]
          rintro e w3 ⟨rfl, hw3⟩
          have hb3 : Below (w2.setCell ⟨W.heap.size + 2, 2, none⟩ (.slice A2 r.length c2)).heap.size (w2.setCell ⟨W.heap.size + 2, 2, none⟩ (.slice A2 r.length c2)) w3 := by rw [hw3]; exact below_alloc (Below.refl _ _) _
          have hm3 : Mid (W.heap.size + 3) w2 w3 := by rw [hw3]; exact Mid.alloc ((Mid.refl _ _).setCell (p := ⟨W.heap.size + 2, 2, none⟩) (by simp) _) _
          have hb4 : Below W.heap.size W w3 := by rw [hw3]; exact below_alloc ((below_next (below_alloc (below_alloc (below_alloc (Below.refl W.heap.size W) _) _) _) HBL.out).setCell (p := ⟨W.heap.size + 2, 2, none⟩) (by simp) _) _
          clear hw3
          have HB3 := Lib.hid hb4
          have HM3 := Lib.hid hm3
          obtain ⟨hcl3, hf3⟩ := bcell hb3
          have he0 : w2.cell? ⟨W.heap.size + 2, 0, none⟩ = some (.int .i64 (ofK n)) := by rw [hcl _ _ (by simp)]; simp [go_sem]
          have he1 : w2.cell? ⟨W.heap.size + 2, 1, none⟩ = some (.int .i64 (ofL n)) := by rw [hcl _ _ (by simp)]; simp [go_sem]
          have he2 : w2.cell? ⟨W.heap.size + 2, 2, none⟩ = some (.slice none 0 0) := by rw [hcl _ _ (by simp)]; simp [go_sem]
          have hd0 : w3.cell? ⟨W.heap.size, 0, none⟩ = some (.int .i64 0) := by rw [hcl3 _ _ (by simp [World.setCell]; omega)]; simp [go_sem, hc0]
          have hd1 : w3.cell? ⟨W.heap.size, 1, none⟩ = some (.int .i64 0) := by rw [hcl3 _ _ (by simp [World.setCell]; omega)]; simp [go_sem, hc1]
          have hd2 : w3.cell? ⟨W.heap.size, 2, none⟩ = some (.slice none 0 0) := by rw [hcl3 _ _ (by simp [World.setCell]; omega)]; simp [go_sem, hc2]
          have hg0 : w3.cell? ⟨W.heap.size + 1 + 1, 0, none⟩ = some (.int .i64 (ofK n)) := by rw [hcl3 _ _ (by simp [World.setCell]; omega)]; simp [go_sem, he0]
          have hg1 : w3.cell? ⟨W.heap.size + 1 + 1, 1, none⟩ = some (.int .i64 (ofL n)) := by rw [hcl3 _ _ (by simp [World.setCell]; omega)]; simp [go_sem, he1]
          have hg2 : w3.cell? ⟨W.heap.size + 1 + 1, 2, none⟩ = some (.slice A2 r.length c2) := by rw [hcl3 _ _ (by simp [World.setCell]; omega)]; simp [go_sem, he2]
          have hk0 : w3.frozen? ⟨W.heap.size, 0, none⟩ = false := by rw [hf3 _ _ (by simp [World.setCell]; omega)]; simp [go_sem]; rw [hf _ _ (by simp; omega)]; simp [go_sem]
          have hk1 : w3.frozen? ⟨W.heap.size, 1, none⟩ = false := by rw [hf3 _ _ (by simp [World.setCell]; omega)]; simp [go_sem]; rw [hf _ _ (by simp; omega)]; simp [go_sem]
          have hk2 : w3.frozen? ⟨W.heap.size, 2, none⟩ = false := by rw [hf3 _ _ (by simp [World.setCell]; omega)]; simp [go_sem]; rw [hf _ _ (by simp; omega)]; simp [go_sem]
          clear hb3 hm3 hb4 hcl3 hf3 hcl hf he0 he1 he2 hc0 hc1 hc2
          go_wp2
          have HO' := HO.out.mono (base' := W.heap.size + 3) (by simp)
          exact bodyPost_ret (v := .tuple #[.agg #[.int .i64 (ofK n), .int .i64 (ofL n), .slice A2 r.length c2], .int .i64 0]) (by simp [results, Try.results25, go_sem, hd0, hd1, hd2]) rfl ⟨_, rfl, (own_mid HO' (((HM3.out.setCell (p := ⟨W.heap.size, 0, none⟩) (by simp) _).setCell (p := ⟨W.heap.size, 1, none⟩) (by simp) _).setCell (p := ⟨W.heap.size, 2, none⟩) (by simp) _)).text, (((HB3.out.setCell (p := ⟨W.heap.size, 0, none⟩) (Nat.le_refl _) _).setCell (p := ⟨W.heap.size, 1, none⟩) (Nat.le_refl _) _).setCell (p := ⟨W.heap.size, 2, none⟩) (Nat.le_refl _) _)⟩)
end Go.Proofs.Ytonjdkankegdaaa.Probe
