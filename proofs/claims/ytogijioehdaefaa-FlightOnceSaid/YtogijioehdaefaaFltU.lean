
/- Layer 16 (flight): the document's Put. (printed by gen_fltu.py) -/
import Derived.Test.YtogijioehdaefaaFltT
import Derived.Test.YtogijioehdaefaaFltD
import Derived.Deep.DeepCutAuto
attribute [local go_sem ↓] Go.wp_at_zero Go.wp_at_succ
namespace Go.Proofs.Ytogijioehdaefaa.Flt
open Go.RowKit Go.Proofs.Ytogijioehdaefaa.Mem Go.Proofs.Ytogijioehdaefaa.Oct Go.Proofs.Ytogijioehdaefaa.Pkt Go.Proofs.Ytogijioehdaefaa.Def Go.Proofs.Ytogijioehdaefaa.Ed

/-- but for the count of what is gone the flight's block is as it was -/
structure GoneW (w5 wr : World) (b g0 cnt : Nat) : Prop where
  chg : Chg (fun g => g = b) w5 wr
  gone : wr.cell? ⟨b, 1, none⟩ = some (.int .i64 ((g0 : Int) + (cnt : Int)))
  cell : ∀ j, j ≠ 1 → wr.cell? ⟨b, j, none⟩ = w5.cell? ⟨b, j, none⟩
  fz : ∀ j, wr.frozen? ⟨b, j, none⟩ = false
theorem GoneW.chg2 {q : Nat → Prop} {w5 wr w' : World} {b g0 cnt : Nat} (h : GoneW w5 wr b g0 cnt) (hb : b < wr.heap.size) (hk : Chg q wr w') (hq : ¬ q b) (hn : ∀ g, g < w5.heap.size → ¬ q g) : GoneW w5 w' b g0 cnt :=
  ⟨h.chg.more hk (fun g hg e => absurd e (hn g hg)), (hk.cell (p := ⟨b, 1, none⟩) hb hq).trans h.gone, fun j hj => (hk.cell (p := ⟨b, j, none⟩) hb hq).trans (h.cell j hj), fun j => (hk.frozen (p := ⟨b, j, none⟩) hb hq).trans (h.fz j)⟩
theorem GoneW.inc {w5 wr : World} {b g0 cnt : Nat} (h : GoneW w5 wr b g0 cnt) : GoneW w5 (wr.setCell ⟨b, 1, none⟩ (.int .i64 ((g0 : Int) + (cnt : Int) + 1))) b g0 (cnt + 1) :=
  ⟨h.chg.trans (chg_set wr ⟨b, 1, none⟩ _), by rw [set_self h.gone]; congr 2, fun j hj => by rw [set_other hj]; exact h.cell j hj, fun j => by rw [set_fz]; exact h.fz j⟩
/-- what stays on its way, as the document picks it -/
theorem put_sel (F : Fl) (d : Nat) (w : List UInt8) (h : Rise (putL F d w)) (hl : F.life ≠ 0) :
    selL (fun k => !old F.life (F.sent d + 1) (nthF (putL F d w) k)) (putL F d w) (putL F d w).length = (putL F d w).drop (cutN F (F.sent d + 1) (putL F d w)) ∧ cutN F (F.sent d + 1) (putL F d w) ≤ (putL F d w).length := by
  have e1 := selL_filter (putL F d w) (fun x => !old F.life (F.sent d + 1) x)
  have e2 := (filter_old F.life (F.sent d + 1) (putL F d w) h).1
  unfold cutN
  rw [if_neg hl]
  exact ⟨e1.trans e2, lead_le _ _ _⟩
theorem put_fin (F : Fl) (d m cnt : Nat) (w : List UInt8) (h : Rise (putL F d w)) (hl : F.life ≠ 0) (hm : m = (selL (fun k => !old F.life (F.sent d + 1) (nthF (putL F d w) k)) (putL F d w) (putL F d w).length).length) (hc : cnt + m = (putL F d w).length) :
    ({ put1 F d w with gone := F.gone + cnt, fs := upd (put1 F d w).fs d (selL (fun k => !old F.life (F.sent d + 1) (nthF (putL F d w) k)) (putL F d w) (putL F d w).length), sent := upd (put1 F d w).sent d (F.sent d + 1) } : Fl) = put F d w := by
  obtain ⟨e1, e2⟩ := put_sel F d w h hl
  rw [e1] at hm ⊢
  rw [List.length_drop] at hm
  have : cnt = cutN F (F.sent d + 1) (putL F d w) := by omega
  unfold put put1
  simp only [upd_upd, this]

section
variable {R : Nat → Prop} {W : World} {b : Nat} {F : Fl} {wv : Nat → Value}
theorem refPut_no (d : Int) (v : Value) (hd : d < 0 ∨ 2 ≤ d) :
    Calls Try.prog 12 #[.pointer (some ⟨b, 0, none⟩), .int .i64 d, v] W fun e w' => e = .returned (.int .i64 1) ∧ W = w' := by
  by_cases h1 : d < 0
  · go_enter Try.func12, Try.ntmps12
    go_wp2_with fail
    go_ret
    exact ⟨rfl, rfl⟩
  · have h2 : 1 < d := by omega
    go_enter Try.func12, Try.ntmps12
    go_wp2_with fail
    go_ret
    exact ⟨rfl, rfl⟩
theorem refPut_long (d m ca : Nat) (A : Option Addr) (hd : d < 2) (hm : 512 < m) :
    Calls Try.prog 12 #[.pointer (some ⟨b, 0, none⟩), .int .i64 d, .slice A m ca] W fun e w' => e = .returned (.int .i64 2) ∧ W = w' := by
  have hmI : (512 : Int) < (m : Int) := by omega
  obtain rfl | rfl : d = 0 ∨ d = 1 := by omega
  all_goals (
    go_enter Try.func12, Try.ntmps12
    go_wp2_with fail
    go_ret
    exact ⟨rfl, rfl⟩)
end
end Go.Proofs.Ytogijioehdaefaa.Flt
