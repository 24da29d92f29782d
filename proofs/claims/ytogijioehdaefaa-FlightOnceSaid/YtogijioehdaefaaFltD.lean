
/- Layer 16 (flight): the code's Put. -/
import Derived.Test.YtogijioehdaefaaFltC
attribute [local go_sem ↓] Go.wp_at_zero Go.wp_at_succ
namespace Go.Proofs.Ytogijioehdaefaa.Flt
open Go.RowKit Go.Proofs.Ytogijioehdaefaa.Mem Go.Proofs.Ytogijioehdaefaa.Oct Go.Proofs.Ytogijioehdaefaa.Pkt Go.Proofs.Ytogijioehdaefaa.Def Go.Proofs.Ytogijioehdaefaa.Ed

section
variable {R : Nat → Prop} {W : World} {b : Nat} {F : Fl} {wv : Nat → Value}
theorem news_of (w : World) (T : TypeId) (c0 c1 c2 : Value) (w' : World) (hw : w' = w.alloc (.cells #[c0, c1, c2] T)) : ∀ j u, [c0, c1, c2][j]? = some u → w'.cell? ((⟨w.heap.size, 0, none⟩ : Addr).add j) = some u := by
  subst hw
  intro j u hu
  rw [Addr.add_lit, Nat.zero_add, cell_of_row _ w.heap.size j #[c0, c1, c2] T (0, 0) (heap_alloc_new w _)]
  simpa using hu
theorem own_shape {E : TypeId} {w : World} {base : Nat} {v : Value} {l : List UInt8} (h : Own E w base v l) : ∃ A n c, v = .slice A n c ∧ l.length = n := by
  obtain ⟨A, c, rfl, _⟩ := h.shape
  exact ⟨A, _, c, rfl, rfl⟩
theorem textP_of {w : World} {base : Nat} {v : Value} {l : List UInt8} (h : Own 5 w base v l) : TextP (fun g => base ≤ g) w v l := TextP.own h fun _ hb _ => hb

set_option maxHeartbeats 8000000 in
set_option maxRecDepth 100000 in
theorem Put_yes (d m ca : Nat) (A1 : Option Addr) (l : List UInt8) (h : FlAt 1 R W b F wv) (hd : d < 2) (hR : ∀ g, W.heap.size ≤ g → R g) (hA : RestAt (fun g => ¬ Mut b wv g) W A1 l) (hm : m = l.length) (hl : l.length ≤ 512)
    (hn : (F.fs d).length ≤ 1000) (hs : F.sent d ≤ 100000) (hg : F.gone ≤ 1000000) (hnum : ∀ i, i < (F.fs d).length → (nthF (F.fs d) i).num ≤ 100000) :
    Calls Try.prog 11 #[.pointer (some ⟨b, 0, none⟩), .int .i64 d, .slice A1 m ca] W fun e w' => e = .returned (.int .i64 0) ∧ Acted 1 R W b wv (put F d l) w' := by
  obtain ⟨o, ho⟩ : ∃ o, o = 3 + 2 * d := ⟨_, rfl⟩
  obtain ⟨A, cap, ys, hv, hr, hf, hc1, hc2⟩ := h.way d o hd (by omega)
  obtain ⟨n, hnn⟩ : ∃ n, n = (F.fs d).length := ⟨_, rfl⟩
  rw [← hnn] at hc1 hr hv hn hnum
  obtain ⟨W1, hW1⟩ : ∃ W1, W1 = W.setCell ⟨b, o + 1, none⟩ (.int .i64 ((F.sent d : Int) + 1)) := ⟨_, rfl⟩
  have hfz := h.fz
  have c1 : Chg (fun g => g = b) W W1 := by rw [hW1]; exact chg_set W ⟨b, o + 1, none⟩ _
  have hbb : ∀ a, A = some a → ¬ a.block = b := fun a ha e => h.ap d hd (by rw [hv, ha]; exact congrArg some e)
  have hA1 : Bytes W1 W1.heap.size A1 l := (hA.chg c1 (fun g _ hp e => hp (.inl e))).bytes
  have hr1 := hr.chg c1 hbb
  have hk1 : W1.cell? ⟨b, o, none⟩ = some (.slice A n cap) := by rw [hW1, set_other (by omega)]; exact hc1
  have hk2 : W1.cell? ⟨b, o + 1, none⟩ = some (.int .i64 ((F.sent d : Int) + 1)) := by rw [hW1]; exact set_self hc2
  have hkz : ∀ i, W1.frozen? ⟨b, i, none⟩ = false := fun i => by rw [hW1, set_fz]; exact hfz i
  have hsz1 : W1.heap.size = W.heap.size := by rw [hW1]; simp [World.setCell]
  have hb1 : b < W1.heap.size := by rw [hsz1]; exact h.hb
  have HK := Lib.hid (fun w (hb : Below W1.heap.size W1 w) => show w.cell? ⟨b, o, none⟩ = some (.slice A n cap) ∧ w.cell? ⟨b, o + 1, none⟩ = some (.int .i64 ((F.sent d : Int) + 1)) from ⟨((bcell hb).1 _ _ hb1).trans hk1, ((bcell hb).1 _ _ hb1).trans hk2⟩)
  have HC := Lib.hid (fun w (hb : Below W1.heap.size W1 w) => show Calls Try.prog 26 #[.slice A1 m ca] w (Gives w l) by
    subst hm
    exact Oct.Clone_any A1 ca l w (hA1.later hb) (by omega))
  have HOF := Lib.hid (of_yes d o h hd ho)
  have hwr : IntKind.i64.wrap ((F.sent d : Int) + 1) = (F.sent d : Int) + 1 := by rw [IntKind.wrap_i64]; omega
  have h512 : ¬ (512 : Int) < (m : Int) := by omega
  have h4096 : ¬ (4096 : Int) ≤ (n : Int) := by omega
  have HW1 := Lib.hid hW1
  have HH := Lib.hid h
  have HRW := Lib.hid (fun w (hb : Below W1.heap.size W1 w) => hr1.chg (chg_below hb) (fun _ _ h => h))
  have hbo : ¬ some b = Value.ownBlock (.slice A n cap) := fun e => h.ap d hd (by rw [hv]; exact e.symm)
  have HK4 := Lib.hid (fun wa w4 (hb : Below W1.heap.size W1 wa) (hg : wa.grownBy w4 (Value.ownBlock (.slice A n cap))) =>
    show (w4.cell? ⟨b, o, none⟩ = some (.slice A n cap) ∧ w4.cell? ⟨b, o + 1, none⟩ = some (.int .i64 ((F.sent d : Int) + 1))) ∧ ∀ i, w4.frozen? ⟨b, i, none⟩ = false from
      ⟨⟨by rw [(chg_grown hg).cell (p := ⟨b, o, none⟩) (Nat.lt_of_lt_of_le hb1 hb.size) hbo]; exact ((bcell hb).1 _ _ hb1).trans hk1,
        by rw [(chg_grown hg).cell (p := ⟨b, o + 1, none⟩) (Nat.lt_of_lt_of_le hb1 hb.size) hbo]; exact ((bcell hb).1 _ _ hb1).trans hk2⟩,
        fun i => by rw [(chg_grown hg).frozen (p := ⟨b, i, none⟩) (Nat.lt_of_lt_of_le hb1 hb.size) hbo, (chg_below hb).frozen (p := ⟨b, i, none⟩) hb1 (fun h => h)]; exact hkz i⟩)
  have HPL := Lib.hid (fun w5 wv5 (h5 : FlAt 1 R w5 b (put1 F d l) wv5) => show Calls Try.prog 27 #[.pointer (some ⟨b, 0, none⟩), .pointer (some ⟨b, o, none⟩)] w5 fun e w' => e = .returned (.tuple #[]) ∧ Acted 1 R w5 b wv5 (put F d l) w' by
    have hfs : (put1 F d l).fs d = putL F d l := upd_same _ _ _
    have hse : (put1 F d l).sent d = F.sent d + 1 := upd_same _ _ _
    have hlen : (putL F d l).length = n + 1 := by unfold putL; rw [List.length_append, hnn]; rfl
    have := outlived_any d o h5 hd ho (by rw [hfs, hlen]; omega) (by rw [hse]; omega) (show F.gone ≤ _ by omega) (fun i hi => by
      rw [hfs] at hi ⊢
      rw [hlen] at hi
      unfold putL
      by_cases hin : i < n
      · rw [nthF_append_left _ _ (by rw [← hnn]; exact hin)]
        have := hnum i hin
        omega
      · have e : i = (F.fs d).length := by omega
        rw [e]
        unfold nthF
        simp only [List.getD_eq_getElem?_getD, List.getElem?_append_right (Nat.le_refl _), Nat.sub_self, List.getElem?_cons_zero, Option.getD_some]
        omega)
    rw [put_eq] at this
    exact this)
  have HD := Lib.hid hd
  have HEQ := Lib.hid (And.intro ho (And.intro hnn (And.intro hsz1 (And.intro hm hv))))
  have HF := Lib.hid hf
  have HLY := Lib.hid hr.len
  have hob : 3 ≤ o := by omega
  clear c1 hA1 hA hfz hr1 ho hnn hsz1 hm hv hf hr hW1 hnum h hbb hd hbo
  go_enter Try.func11, Try.ntmps11
  go_wp2_with fail
  refine HOF.out.mono ?_
  rintro e w' ⟨rfl, rfl⟩
  have hfz := HH.out.fz
  go_wp2_with fail
  rw [← HW1.out]
  go_region_law (first
      | (go_simp; go_at_call 26; refine (HC.out _ (by exact Below.drew (Below.refl W1.heap.size W1))).mono ?_; rintro e w2 ⟨v2, rfl, ho2, hb2⟩; obtain ⟨A2, n2, c2, rfl, hn2⟩ := own_shape ho2
         have hb12 := below_undrew hb2
         obtain ⟨hS1, hS2⟩ := HK.out _ hb12)
      | (go_simp; go_at_call 26; ((with_reducible refine (HC.out _ ?_).mono ?_); exact hb12); rintro e w3 ⟨v3, rfl, ho3, hb3⟩; obtain ⟨A3, n3, c3, rfl, hn3⟩ := own_shape ho3
         have hb13 := below_next hb12 hb3
         obtain ⟨hS3, hS4⟩ := HK.out _ hb13
         have hq1 : b < w3.heap.size := Nat.lt_of_lt_of_le hb1 hb13.size
         have hq2 : ¬ b = w3.heap.size := Nat.ne_of_lt hq1
         have hq3 : ¬ w3.heap.size = b := Ne.symm hq2)
      | (refine step_app_row _ (by rfl) _ _ (by rfl) (by rfl) (HRW.out _ (below_alloc hb13 _)) ⟨w3.heap.size, 0, none⟩ 1 1 [.int .i64 ((F.sent d : Int) + 1), .slice A2 n2 c2, .slice A3 n3 c3] (by rfl) rfl (news_of w3 40 _ _ _ _ rfl) (by intro u hu; simp only [List.mem_cons, List.not_mem_nil, or_false] at hu; rcases hu with rfl | rfl | rfl <;> rfl) (by omega) ?_
         intro A' cap' w4 r1 r2 r3 r4
         obtain ⟨⟨hS5, hS6⟩, hz4⟩ := HK4.out _ _ (below_alloc hb13 _) r2))
  all_goals (
    obtain ⟨q1, q2, q3⟩ := put_step HH.out HD.out (by have := HEQ.out.1; omega) HEQ.out.2.1 HEQ.out.2.2.2.2 HF.out hR HLY.out HW1.out hb13
      ((textP_of ho2).chg (chg_below hb3) (fun _ _ _ h => h) (fun _ _ h => h)) ((textP_of ho3).chg (Chg.refl (fun _ => False) _) (fun _ _ _ h => h) (fun g _ hp => Nat.le_trans hb12.size hp)) (Nat.le_trans hl (by decide)) 40 r1 r2 r3
    have HQ := Lib.hid (And.intro q2 q3)
    have HP := Lib.hid (HPL.out _ _ q1)
    clear q1 q2 q3 r1 r2 r3 r4 ho2 ho3 hb2 hb3 hb12 hb13 hS1 hS2 hS3 hS4 hS5 hS6 hz4 hq1 hq2 hq3 hn2 hn3 HRW HK HK4 HC
    generalize w4.setCell ⟨b, o, none⟩ (.slice A' (n + 1) cap') = w5 at *
    go_wp2_with fail
    refine HP.out.mono ?_
    rintro e w6 ⟨rfl, hx⟩
    have hy := Acted.trans HQ.out.1 HQ.out.2 hx
    go_wp2_with fail
    go_ret
    exact ⟨rfl, hy⟩)
end
end Go.Proofs.Ytogijioehdaefaa.Flt
