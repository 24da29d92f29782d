
/- Have two lists the same texts? The document's function. -/
import Derived.Test.YtfieinajkkcelaaOctB
import Derived.Deep.RegionHeld3
import Derived.Deep.DrawnRows
attribute [local go_sem ↓] Go.wp_at_zero Go.wp_at_succ
namespace Go.Proofs.Ytfieinajkkcelaa.Oct
open Go.RowKit Go.Proofs.Ytfieinajkkcelaa.Mem

theorem Drawn.trans {a b c : World} (h : Drawn a b) (k : Drawn b c) : Drawn a c := by
  obtain ⟨n, rfl⟩ := h
  obtain ⟨m, rfl⟩ := k
  exact ⟨n + m, by simp [World.drewN, Nat.add_assoc]⟩
theorem Drawn.drew {a b : World} (h : Drawn a b) : Drawn a b.drew := h.trans ⟨1, rfl⟩
theorem drawn_cells {w w' : World} (h : Drawn w.drew w') {p q : Addr} {x y : Value} (hx : w.cell? p = some x) (hy : w.cell? q = some y) : w'.cell? p = some x ∧ w'.cell? q = some y := by
  obtain ⟨n, rfl⟩ := h
  exact ⟨hx, hy⟩
/-- the first k texts are the same -/
def SameT (ls ms : List (List UInt8)) (k : Nat) : Prop := ∀ j, j < k → nthT ls j = nthT ms j
theorem eq_of_texts {ls ms : List (List UInt8)} (hl : ls.length = ms.length) (h : SameT ls ms ls.length) : ls = ms := by
  apply List.ext_getElem hl
  intro i h1 h2
  have := h i h1
  unfold nthT at this
  simpa [List.getD, h1, h2] using this
theorem ne_of_texts {ls ms : List (List UInt8)} {k : Nat} (h : (nthT ls k == nthT ms k) = false) : (ls == ms) = false := by
  rw [beq_eq_false_iff_ne] at h ⊢
  rintro rfl
  exact h rfl

set_option maxHeartbeats 4000000 in
theorem refSameAll_any (A B : Option Addr) (n m ca cb : Nat) (ls ms : List (List UInt8)) (b0 b1 : Nat) (W : World) (hn : n = ls.length) (hm : m = ms.length) (hA : Texts W b0 A ls) (hB : Texts W b1 B ms) (h0 : b0 ≤ W.heap.size) (h1 : b1 ≤ W.heap.size) (hl : ls.length ≤ 1000000) :
    Calls Try.prog 18 #[.slice A n ca, .slice B m cb] W fun e W' => e = .returned (.bool (ls == ms)) ∧ Drawn W W' := by
  subst hn hm
  by_cases hlen : ls.length = ms.length
  · have HL := Lib.hid hlen
    have hb : ((ls.length : Int) != (ms.length : Int)) = false := by rw [hlen]; simp
    clear hlen
    have HA := Lib.hid hA
    have HB := Lib.hid hB
    have H0 := Lib.hid h0
    have H1 := Lib.hid h1
    clear hA hB h0 h1
    go_enter Try.func18, Try.ntmps18
    go_wp2
    go_loopw [5] (fun i wr => ∃ k : Nat, k ≤ ls.length ∧ i = .int .i64 k ∧ Hid (SameT ls ms k) ∧ Drawn W wr) (fun i _ => ls.length - (intOf i).toNat)
    case atStart => exact ⟨0, Nat.zero_le _, rfl, Lib.hid (fun j hj => by omega), Drawn.refl _⟩
    case round =>
      obtain ⟨k, hk, rfl, HS, hw⟩ := hrel
      by_cases hlt : k < ls.length
      · have hlt2 : k < ms.length := by have := HL.out; omega
        obtain ⟨b, off, A1, c1, rfl, _, hc, hx1, hy1, hz1⟩ := (HA.out.below (hw.below b0) (Nat.le_refl _)).at_ hlt
        obtain ⟨b', off', A2, c2, rfl, _, hc', hx2, hy2, hz2⟩ := (HB.out.below (hw.below b1) (Nat.le_refl _)).at_ hlt2
        have hlt' : (k : Int) < (ls.length : Int) := by omega
        have hlt2' : (k : Int) < (ms.length : Int) := by omega
        have HZ1 := Lib.hid hz1
        have HZ2 := Lib.hid hz2
        have HY1 := Lib.hid (Nat.le_trans hx1 hy1)
        have HY2 := Lib.hid (Nat.le_trans hx2 hy2)
        have HW := Lib.hid hw
        clear hz1 hz2 hx1 hx2 hy1 hy2 hw
        cases he : nthT ls k == nthT ms k with
        | true =>
          have HS' := Lib.hid (show SameT ls ms (k + 1) from fun j hj => by
            rcases Nat.lt_or_ge j k with h | h
            · exact HS.out j h
            · obtain rfl : j = k := by omega
              exact eq_of_beq he)
          have HE := Lib.hid he
          clear he
          go_wp2_with fail
          go_region_held3 (fun w' => w'.cell? ⟨b, off + k, none⟩ = some (.slice A1 (nthT ls k).length c1) ∧ w'.cell? ⟨b', off' + k, none⟩ = some (.slice A2 (nthT ms k).length c2))
            (first | exact hS4 | go_keep)
            ((first
              | (go_at_call 23; refine (refSame_any A1 A2 c1 c2 (nthT ls k) (nthT ms k) b0 b1 wr.drew (HZ1.out.keep fun _ _ => rfl) (HZ2.out.keep fun _ _ => rfl) HY1.out HY2.out).mono ?_; rw [HE.out]; rintro e w' ⟨rfl, hd⟩
                 have hd2 := HW.out.drew.trans hd
                 have hS4 := drawn_cells hd hc hc')
              | fail))
          all_goals (
            go_wp2_with fail
            go_roundw
            case rel => exact ⟨k + 1, by omega, by go_num, HS', by first | exact hd2 | exact HW.out.drew.trans hd⟩
            case measure => simp [intOf]; omega)
        | false =>
          have HN := Lib.hid (ne_of_texts he)
          have HE := Lib.hid he
          clear he
          go_wp2_with fail
          go_region_held3 (fun w' => w'.cell? ⟨b, off + k, none⟩ = some (.slice A1 (nthT ls k).length c1) ∧ w'.cell? ⟨b', off' + k, none⟩ = some (.slice A2 (nthT ms k).length c2))
            (first | exact hS4 | go_keep)
            ((first
              | (go_at_call 23; refine (refSame_any A1 A2 c1 c2 (nthT ls k) (nthT ms k) b0 b1 wr.drew (HZ1.out.keep fun _ _ => rfl) (HZ2.out.keep fun _ _ => rfl) HY1.out HY2.out).mono ?_; rw [HE.out]; rintro e w' ⟨rfl, hd⟩
                 have hd2 := HW.out.drew.trans hd
                 have hS4 := drawn_cells hd hc hc')
              | fail))
          all_goals (
            go_wp2_with fail
            go_ret
            exact ⟨ret_bool HN.out.symm, by first | exact hd2 | exact HW.out.drew.trans hd⟩)
      · obtain rfl : k = ls.length := by omega
        have HE := Lib.hid (show (ls == ms) = true by rw [eq_of_texts HL.out HS.out]; exact beq_self_eq_true _)
        go_wp2_with fail
        go_ret
        exact ⟨ret_bool HE.out.symm, hw⟩
  · have hne : (ls == ms) = false := by rw [beq_eq_false_iff_ne]; rintro rfl; exact hlen rfl
    have HN := Lib.hid hne
    have hb : ((ls.length : Int) != (ms.length : Int)) = true := by rw [bne_iff_ne]; omega
    clear hlen hne
    go_enter Try.func18, Try.ntmps18
    go_wp2
    go_ret
    exact ⟨ret_bool HN.out.symm, Drawn.refl _⟩
end Go.Proofs.Ytfieinajkkcelaa.Oct
