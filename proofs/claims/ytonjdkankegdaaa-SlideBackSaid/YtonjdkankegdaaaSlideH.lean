
/- Layer 14 (slide): Get, and the document's. -/
import Derived.Test.YtonjdkankegdaaaSlideG
namespace Go.Proofs.Ytonjdkankegdaaa.Slide
open Go.RowKit Go.Proofs.Ytonjdkankegdaaa.Mem Go.Proofs.Ytonjdkankegdaaa.Oct Go.Proofs.Ytonjdkankegdaaa.Pkt

def gOkS (b : List UInt8) (m : Int) : Bool := mOk m && (rO b && slOk (rA b) (rS b) (rB b) (rD b).length m)
def gvA (b : List UInt8) (m : Int) : Bool := gOkS b m && rA b
def gvS (b : List UInt8) (m : Int) : Int := if gOkS b m = true then rS b else 0
def gvB (b : List UInt8) (m : Int) : Int := if gOkS b m = true then rB b else 0
def gvD (b : List UInt8) (m : Int) : List UInt8 := if gOkS b m = true then rD b else []
def gvE (b : List UInt8) (m : Int) : Int := if mOk m = true then (if gOkS b m = true then 0 else 130) else 1
/-- what Get answers -/
def GivesS (w : World) (b : List UInt8) (m : Int) (e : Ending) (w' : World) : Prop :=
  ∃ v, e = .returned (.tuple #[.agg #[.bool (gvA b m), .int .i64 (gvS b m), .int .u64 (gvB b m), v], .int .i64 (gvE b m)]) ∧ IsText w' v (gvD b m) ∧ Below w.heap.size w w'
theorem gs_arg {w w' : World} {b : List UInt8} {m : Int} (h : mOk m = false) (hb : Below w.heap.size w w') : GivesS w b m (.returned (.tuple #[.agg #[.bool false, .int .i64 0, .int .u64 0, .slice none 0 0], .int .i64 1])) w' := by
  have hg : gOkS b m = false := by unfold gOkS; rw [h]; rfl
  unfold GivesS gvA gvS gvB gvD gvE
  rw [hg, h]
  exact ⟨_, rfl, IsText.nil _, hb⟩
theorem gs_no {w w' : World} {b : List UInt8} {m : Int} (h : mOk m = true) (hg : gOkS b m = false) (hb : Below w.heap.size w w') : GivesS w b m (.returned (.tuple #[.agg #[.bool false, .int .i64 0, .int .u64 0, .slice none 0 0], .int .i64 130])) w' := by
  unfold GivesS gvA gvS gvB gvD gvE
  rw [hg, h]
  exact ⟨_, rfl, IsText.nil _, hb⟩
theorem gs_yes {w w' : World} {b : List UInt8} {m : Int} (h : mOk m = true) (hg : gOkS b m = true) {v : Value} (ht : IsText w' v (rD b)) (hb : Below w.heap.size w w') : GivesS w b m (.returned (.tuple #[.agg #[.bool (rA b), .int .i64 (rS b), .int .u64 (rB b), v], .int .i64 0])) w' := by
  unfold GivesS gvA gvS gvB gvD gvE
  rw [hg, h]
  exact ⟨_, rfl, ht, hb⟩
set_option maxHeartbeats 8000000 in
theorem Get_any (A : Option Addr) (cap : Nat) (l : List UInt8) (m : Int) (W : World) (hA : Bytes W W.heap.size A l) (hc : l.length ≤ cap) (hm : cap ≤ maxLen) (hl : l.length ≤ 140737488355328) :
    Calls Try.prog 29 #[.slice A l.length cap, .int .i64 m] W (GivesS W l m) := by
  have hb0 := below_alloc (Below.refl W.heap.size W) (.cells #[.bool false, .int .i64 0, .int .u64 0, .slice none 0 0] 25)
  cases h : mOk m with
  | false =>
    have H := Lib.hid h; clear h
    go_enter Try.func29, Try.ntmps29
    go_wp2_with (go_at_call 39; refine (modulus_any m _).mono ?_; rw [H.out]; rintro e w' ⟨rfl, rfl⟩)
    exact bodyPost_ret (v := .tuple #[.agg #[.bool false, .int .i64 0, .int .u64 0, .slice none 0 0], .int .i64 1]) (by simp [results, Try.results29, go_sem]) rfl (gs_arg H.out hb0)
  | true =>
    have H := Lib.hid h; clear h
    have HR := Lib.hid (fun w h => read_any A cap l w h hc hm hl)
    have hRL : (rD l).length ≤ maxLen := by have := rD_le l; unfold maxLen; omega
    have HGV := Lib.hid (show gOkS l m = (rO l && slOk (rA l) (rS l) (rB l) (rD l).length m) by unfold gOkS; rw [H.out]; rfl)
    have HQ := Lib.hid (fun (w : World) A2 c2 => right_any (rA l) (rS l) (rB l) A2 (rD l).length c2 m hRL w)
    clear hRL
    go_enter Try.func29, Try.ntmps29
    go_wp2_with (go_at_call 39; refine (modulus_any m _).mono ?_; rw [H.out]; rintro e w' ⟨rfl, rfl⟩)
    refine (HR.out _ (hA.later hb0)).mono ?_
    rintro e w1 ⟨v1, rfl, ht1, hb⟩
    have hd0 : w1.cell? ⟨W.heap.size, 0, none⟩ = some (.bool false) := (box_cell hb (by simp) 0).1
    have hd1 : w1.cell? ⟨W.heap.size, 1, none⟩ = some (.int .i64 0) := (box_cell hb (by simp) 1).1
    have hd2 : w1.cell? ⟨W.heap.size, 2, none⟩ = some (.int .u64 0) := (box_cell hb (by simp) 2).1
    have hd3 : w1.cell? ⟨W.heap.size, 3, none⟩ = some (.slice none 0 0) := (box_cell hb (by simp) 3).1
    have hk0 : w1.frozen? ⟨W.heap.size, 0, none⟩ = false := (box_cell hb (by simp) 0).2
    have hk1 : w1.frozen? ⟨W.heap.size, 1, none⟩ = false := (box_cell hb (by simp) 1).2
    have hk2 : w1.frozen? ⟨W.heap.size, 2, none⟩ = false := (box_cell hb (by simp) 2).2
    have hk3 : w1.frozen? ⟨W.heap.size, 3, none⟩ = false := (box_cell hb (by simp) 3).2
    have hq0 : W.heap.size < w1.heap.size := by have := hb.size; simp at this; omega
    have hq1 : ¬ W.heap.size = w1.heap.size := by omega
    have hq2 : ¬ w1.heap.size = W.heap.size := by omega
    have HB := Lib.hid (below_next hb0 hb)
    obtain ⟨A2, c2, rfl, _, _, _⟩ := ht1.shape
    have HT := Lib.hid ht1
    clear hb ht1
    have hq3 : W.heap.size < w1.heap.size + 1 := by omega
    cases ho : rO l with
    | false =>
      have HG := Lib.hid (show gOkS l m = false by rw [HGV.out, ho]; rfl)
      generalize rA l = a at *
      generalize rS l = x at *
      generalize rB l = y at *
      clear ho hq3
      go_wp2_with fail
      exact bodyPost_ret (v := .tuple #[.agg #[.bool false, .int .i64 0, .int .u64 0, .slice none 0 0], .int .i64 130]) (by simp [results, Try.results29, go_sem, hd0, hd1, hd2, hd3, hq0]) rfl (gs_no H.out HG.out (below_alloc (((((HB.out.setCell (p := ⟨W.heap.size, 0, none⟩) (Nat.le_refl _) _).setCell (p := ⟨W.heap.size, 1, none⟩) (Nat.le_refl _) _).setCell (p := ⟨W.heap.size, 2, none⟩) (Nat.le_refl _) _).setCell (p := ⟨W.heap.size, 3, none⟩) (Nat.le_refl _) _)) _))
    | true =>
      cases hs : slOk (rA l) (rS l) (rB l) (rD l).length m with
      | false =>
        have HG := Lib.hid (show gOkS l m = false by rw [HGV.out, ho, hs]; rfl)
        have HS := Lib.hid (show ∀ w, Calls Try.prog 40 #[.agg #[.bool (rA l), .int .i64 (rS l), .int .u64 (rB l), .slice A2 (rD l).length c2], .int .i64 m] w fun e W' => e = .returned (.bool false) ∧ W' = w.alloc (.cells #[.bool (rA l), .int .i64 (rS l), .int .u64 (rB l), .slice A2 (rD l).length c2] 25) from fun w => by have := HQ.out w A2 c2; rw [hs] at this; exact this)
        clear ho hs HQ HGV
        generalize rA l = a at *
        generalize rS l = x at *
        generalize rB l = y at *
        generalize (rD l).length = n at *
        go_wp2_with fail
        refine (HS.out _).mono ?_
        rintro e w' ⟨rfl, rfl⟩
        go_wp2_with fail
        exact bodyPost_ret (v := .tuple #[.agg #[.bool false, .int .i64 0, .int .u64 0, .slice none 0 0], .int .i64 130]) (by simp [results, Try.results29, go_sem, hd0, hd1, hd2, hd3, hq0, hq3]) rfl (gs_no H.out HG.out (below_alloc (below_alloc (((((HB.out.setCell (p := ⟨W.heap.size, 0, none⟩) (Nat.le_refl _) _).setCell (p := ⟨W.heap.size, 1, none⟩) (Nat.le_refl _) _).setCell (p := ⟨W.heap.size, 2, none⟩) (Nat.le_refl _) _).setCell (p := ⟨W.heap.size, 3, none⟩) (Nat.le_refl _) _)) _) _))
      | true =>
        have HG := Lib.hid (show gOkS l m = true by rw [HGV.out, ho, hs]; rfl)
        have HS := Lib.hid (show ∀ w, Calls Try.prog 40 #[.agg #[.bool (rA l), .int .i64 (rS l), .int .u64 (rB l), .slice A2 (rD l).length c2], .int .i64 m] w fun e W' => e = .returned (.bool true) ∧ W' = w.alloc (.cells #[.bool (rA l), .int .i64 (rS l), .int .u64 (rB l), .slice A2 (rD l).length c2] 25) from fun w => by have := HQ.out w A2 c2; rw [hs] at this; exact this)
        clear ho hs HQ HGV
        go_wp2_with fail
        refine (HS.out _).mono ?_
        rintro e w' ⟨rfl, rfl⟩
        go_wp2_with fail
        exact bodyPost_ret (v := .tuple #[.agg #[.bool (rA l), .int .i64 (rS l), .int .u64 (rB l), .slice A2 (rD l).length c2], .int .i64 0]) (by simp [results, Try.results29, go_sem, hd0, hd1, hd2, hd3, hq0, hq3]) rfl (gs_yes H.out HG.out ((own_mid (HT.out.mono (base' := W.heap.size + 1) (by simp)) (Mid.alloc (Mid.alloc ((((((Mid.refl _ _).setCell (p := ⟨W.heap.size, 0, none⟩) (by simp) _).setCell (p := ⟨W.heap.size, 1, none⟩) (by simp) _).setCell (p := ⟨W.heap.size, 2, none⟩) (by simp) _).setCell (p := ⟨W.heap.size, 3, none⟩) (by simp) _)) _) _)).text) (below_alloc (below_alloc (((((HB.out.setCell (p := ⟨W.heap.size, 0, none⟩) (Nat.le_refl _) _).setCell (p := ⟨W.heap.size, 1, none⟩) (Nat.le_refl _) _).setCell (p := ⟨W.heap.size, 2, none⟩) (Nat.le_refl _) _).setCell (p := ⟨W.heap.size, 3, none⟩) (Nat.le_refl _) _)) _) _))
end Go.Proofs.Ytonjdkankegdaaa.Slide
