
/- Layer 15 (token): Get, whole. -/
import Derived.Test.YtonjdkankegdaaaTokenH
namespace Go.Proofs.Ytonjdkankegdaaa.Token
open Go.RowKit Go.Proofs.Ytonjdkankegdaaa.Mem Go.Proofs.Ytonjdkankegdaaa.Oct Go.Proofs.Ytonjdkankegdaaa.Pkt

set_option maxHeartbeats 8000000 in
theorem Get_any (A : Option Addr) (cap : Nat) (l : List UInt8) (W : World) (hA : Bytes W W.heap.size A l) (hc : l.length ≤ cap) (hm : cap ≤ maxLen) (hl : l.length ≤ 140737488355328) :
    Calls Try.prog 32 #[.slice A l.length cap] W (GivesTk W l) := by
  match l, hA, hc, hl with
  | x :: l, hA, hc, hl => exact Get_cons A cap x l W hA hc hm hl
  | [], hA, hc, hl =>
    have e3 : cutOk [] 1 = false := by decide
    have e1 : cutA [] 1 = [] := by decide
    have e2 : cutB [] 1 = [] := by decide
    have c1 := fun w h => Cut_any A cap [] 1 w h hc hm hl
    rw [e1, e2, e3] at c1
    have C1 := Lib.hid c1
    clear c1 hc hm hl e1 e2 e3
    have HG := Lib.hid (show gtOk [] = false from rfl)
    generalize hnl : ([] : List UInt8).length = nl at *
    have HA := Lib.hid hA
    clear hA hnl
    have hb0 : Below W.heap.size W (W.alloc (.cells #[.int .i64 0, .int .u64 0, .int .u64 0, .int .u64 0, .slice none 0 0] 36)) := below_alloc (Below.refl _ _) _
    go_enter Try.func32, Try.ntmps32
    go_wp2_with fail
    refine (C1.out _ (HA.out.later hb0)).mono ?_
    rintro e w1 ⟨u, v, rfl, hu, hv, hb1⟩
    obtain ⟨A1, k1, rfl, _, _, _⟩ := hu.shape
    obtain ⟨A2, k2, rfl, _, _, _⟩ := hv.shape
    clear hu hv
    generalize ([] : List UInt8).length = n1 at *
    have x0 : w1.cell? ⟨W.heap.size, 0, none⟩ = some (.int .i64 0) := (box_cell hb1 (by simp) 0).1
    have x1 : w1.cell? ⟨W.heap.size, 1, none⟩ = some (.int .u64 0) := (box_cell hb1 (by simp) 1).1
    have x2 : w1.cell? ⟨W.heap.size, 2, none⟩ = some (.int .u64 0) := (box_cell hb1 (by simp) 2).1
    have x3 : w1.cell? ⟨W.heap.size, 3, none⟩ = some (.int .u64 0) := (box_cell hb1 (by simp) 3).1
    have x4 : w1.cell? ⟨W.heap.size, 4, none⟩ = some (.slice none 0 0) := (box_cell hb1 (by simp) 4).1
    have g0 : w1.frozen? ⟨W.heap.size, 0, none⟩ = false := (box_cell hb1 (by simp) 0).2
    have g1 : w1.frozen? ⟨W.heap.size, 1, none⟩ = false := (box_cell hb1 (by simp) 1).2
    have g2 : w1.frozen? ⟨W.heap.size, 2, none⟩ = false := (box_cell hb1 (by simp) 2).2
    have g3 : w1.frozen? ⟨W.heap.size, 3, none⟩ = false := (box_cell hb1 (by simp) 3).2
    have g4 : w1.frozen? ⟨W.heap.size, 4, none⟩ = false := (box_cell hb1 (by simp) 4).2
    have hs1 : W.heap.size + 1 ≤ w1.heap.size := by have := hb1.size; simpa using this
    have hq0 : W.heap.size < w1.heap.size := by omega
    have hq1 : ¬ W.heap.size = w1.heap.size := by omega
    have hq2 : ¬ w1.heap.size = W.heap.size := by omega
    have hq3 : W.heap.size < w1.heap.size + 1 := by omega
    have hq4 : ¬ W.heap.size = w1.heap.size + 1 := by omega
    have hq5 : ¬ w1.heap.size + 1 = W.heap.size := by omega
    have HB := Lib.hid (below_next hb0 hb1)
    clear hb1 hb0 hs1 C1 HA
    go_wp2_with fail
    exact bodyPost_ret (v := .tuple #[.agg #[.int .i64 0, .int .u64 0, .int .u64 0, .int .u64 0, .slice none 0 0], .int .i64 130]) (by simp [results, Try.results32, go_sem, x0, x1, x2, x3, x4, hq0, hq3]) rfl (gt_no HG.out (below_alloc (below_alloc ((((((HB.out.setCell (p := ⟨W.heap.size, 0, none⟩) (Nat.le_refl _) _).setCell (p := ⟨W.heap.size, 1, none⟩) (Nat.le_refl _) _).setCell (p := ⟨W.heap.size, 2, none⟩) (Nat.le_refl _) _).setCell (p := ⟨W.heap.size, 3, none⟩) (Nat.le_refl _) _).setCell (p := ⟨W.heap.size, 4, none⟩) (Nat.le_refl _) _)) _) _))
end Go.Proofs.Ytonjdkankegdaaa.Token
