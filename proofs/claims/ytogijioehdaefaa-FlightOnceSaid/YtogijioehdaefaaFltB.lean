
/- Layer 16 (flight): the code's outlived. -/
import Derived.Test.YtogijioehdaefaaFltA
import Derived.Test.YtogijioehdaefaaOctB
namespace Go.Proofs.Ytogijioehdaefaa.Flt
open Go.RowKit Go.Proofs.Ytogijioehdaefaa.Mem Go.Proofs.Ytogijioehdaefaa.Oct Go.Proofs.Ytogijioehdaefaa.Pkt Go.Proofs.Ytogijioehdaefaa.Def Go.Proofs.Ytogijioehdaefaa.Ed

theorem drawn_chg {w w' : World} (h : Drawn w w') : Chg (fun _ => False) w w' := by
  obtain ⟨n, rfl⟩ := h
  exact ⟨rfl, rfl, rfl, Nat.le_refl _, fun _ _ _ => rfl⟩
theorem FlAt.drawn {k : Nat} {R : Nat → Prop} {w w' : World} {b : Nat} {F : Fl} {wv : Nat → Value} (h : FlAt k R w b F wv) (hd : Drawn w w') : FlAt k R w' b F wv :=
  h.chg (drawn_chg hd) (fun _ _ h => h) (fun _ _ _ hR => ⟨fun h => h, hR⟩)
theorem drawn_cell {w w' : World} (h : Drawn w w') (p : Addr) : w'.cell? p = w.cell? p := by obtain ⟨n, rfl⟩ := h; rfl
theorem drawn_frozen {w w' : World} (h : Drawn w w') (p : Addr) : w'.frozen? p = w.frozen? p := by obtain ⟨n, rfl⟩ := h; rfl
/-- k are taken off the head -/
def cutK (F : Fl) (d k : Nat) : Fl := { F with gone := F.gone + k, fs := upd F.fs d ((F.fs d).drop k), sent := upd F.sent d (F.sent d) }
def cutF (F : Fl) (d : Nat) : Fl := cutK F d (cutN F (F.sent d) (F.fs d))
theorem upd_self {α : Type} (f : Nat → α) (d : Nat) : upd f d (f d) = f := by
  funext k
  unfold upd
  split
  · rename_i h; rw [h]
  · rfl
theorem cutK_zero (F : Fl) (d : Nat) : cutK F d 0 = F := by
  unfold cutK
  rw [List.drop_zero, upd_self, upd_self]
  rfl
section
variable {R : Nat → Prop} {W : World} {b : Nat} {F : Fl} {wv : Nat → Value}
theorem cut_acted (d o k n cap : Nat) (A : Option Addr) (ys : List Value) (w : World) (h : FlAt 1 R W b F wv) (hd : d < 2) (ho : o = 3 + 2 * d) (hk : k ≤ n) (hn : n = (F.fs d).length) (hw : Drawn W w)
    (hv : wv d = .slice A n cap) (hr : RowAt W A n cap ys) (hf : FrOk (fun g => ¬ Mut b wv g ∧ R g) W ys (F.fs d)) (A' : Option Addr) (hA : A' = if cap = k then A else A.map (fun a => a.add (k * 3))) :
    Acted 1 R W b wv (cutK F d k) ((w.setCell ⟨b, 2, none⟩ (.int .i64 ((F.gone : Int) + (k : Int)))).setCell ⟨b, o, none⟩ (.slice A' (n - k) (cap - k))) := by
  have h1 := h.drawn hw
  obtain ⟨w2, hw2⟩ : ∃ w2, w2 = (w.setCell ⟨b, 2, none⟩ (.int .i64 ((F.gone : Int) + (k : Int)))).setCell ⟨b, o, none⟩ (.slice A' (n - k) (cap - k)) := ⟨_, rfl⟩
  have hc2 : Chg (fun g => g = b) w w2 := by rw [hw2]; exact (chg_set w ⟨b, 2, none⟩ _).trans (chg_set _ ⟨b, o, none⟩ _)
  have hcW : Chg (fun g => g = b) W w2 := ((drawn_chg hw).mono (fun _ h => h.elim)).trans hc2
  rw [← hw2]
  have hblk : ∀ g, (Value.slice A' (n - k) (cap - k)).ownBlock = some g → (wv d).ownBlock = some g := by
    intro g hg
    rw [hv]
    subst hA
    split at hg
    · cases A with
      | none => simp [Value.ownBlock] at hg
      | some a => exact hg
    · cases A with
      | none => simp [Value.ownBlock] at hg
      | some a =>
        simp only [Option.map_some, Value.ownBlock, Option.some.injEq] at hg ⊢
        rw [← hg]
        unfold Addr.add
        split <;> rfl
  have hmut : ∀ g, Mut b (upd wv d (.slice A' (n - k) (cap - k))) g → Mut b wv g := by
    intro g hg
    rcases hg.cases with rfl | ⟨e, he, h2⟩
    · exact .inl rfl
    · by_cases hed : e = d
      · subst hed
        rw [upd_same] at h2
        exact Mut.d hd (hblk g h2)
      · rw [upd_other _ _ hed] at h2
        exact Mut.d he h2
  have hl0 : ∀ i, w.cell? ⟨b, i, none⟩ = W.cell? ⟨b, i, none⟩ := fun i => (drawn_chg hw).cell (p := ⟨b, i, none⟩) h.hb (fun h => h)
  have hw2c : ∀ i, i ≠ 2 → i ≠ o → w2.cell? ⟨b, i, none⟩ = W.cell? ⟨b, i, none⟩ := fun i h2 h3 => by
    rw [hw2, set_other h3, set_other h2, hl0]
  have ho2 : (2 : Nat) ≠ o := by omega
  have hg0 : w.cell? ⟨b, 2, none⟩ = some (.int .i64 F.gone) := h1.gone
  have hgone : w2.cell? ⟨b, 2, none⟩ = some (.int .i64 ((F.gone + k : Nat) : Int)) := by
    rw [hw2, set_other ho2, Int.natCast_add]
    exact set_self hg0
  have hlc : w2.cell? ⟨b, o, none⟩ = some (.slice A' (n - k) (cap - k)) := by
    have : w.cell? ⟨b, o, none⟩ = some (wv d) := by have := h1.l d hd; rwa [← show o = 1 + 2 + 2 * d by omega] at this
    rw [hw2]
    exact set_self (x := wv d) (by rw [set_other (Ne.symm ho2)]; exact this)
  have hns : ∀ g, (wv d).ownBlock = some g → g ≠ b := fun g hg e => h.ap d hd (e ▸ hg)
  have hrow : RowF (fun g => ¬ Mut b (upd wv d (.slice A' (n - k) (cap - k))) g ∧ R g) w2 (.slice A' (n - k) (cap - k)) ((F.fs d).drop k) := by
    have r1 := hr.drop hk
    rw [← hA] at r1
    have hlen : n - k = ((F.fs d).drop k).length := by rw [List.length_drop, hn]
    refine ⟨A', cap - k, ys.drop (k * 3), by rw [hlen], ?_, ?_⟩
    · rw [← hlen]
      exact r1.chg hcW (fun a ha => hns _ (hblk _ (by rw [ha]; rfl)))
    · exact (hf.drop k).chg hcW (fun g _ hp e => hp.1 (.inl e)) (fun g _ hp => ⟨fun hm => hp.1 (hmut g hm), hp.2⟩)
  obtain ⟨r1, r2⟩ := h.turn (w' := w2) (gone' := F.gone + k) (sent' := F.sent d) (v' := .slice A' (n - k) (cap - k)) (l' := (F.fs d).drop k) hd (hcW.mono fun _ h => .inl h) hgone (by rw [← show o = 1 + 2 + 2 * d by omega]; exact hlc)
    (by rw [hw2c _ (by omega) (by omega)]; exact h.sent d hd) (fun i h2 h3 _ => hw2c i (by omega) (by omega)) (fun i => by rw [hw2, set_fz, set_fz]; exact h1.fz i) (fun g hg => .inl (hblk g hg)) hrow
  exact ⟨_, r1, hcW.mono fun _ e => .inl e, r2⟩

set_option maxHeartbeats 4000000 in
theorem outlived_any (d o : Nat) (h : FlAt 1 R W b F wv) (hd : d < 2) (ho : o = 3 + 2 * d) (hn : (F.fs d).length ≤ 5000) (hs : F.sent d ≤ 1000000) (hg : F.gone ≤ 1000000000) (hnum : ∀ i, i < (F.fs d).length → (nthF (F.fs d) i).num ≤ 1000000) :
    Calls Try.prog 27 #[.pointer (some ⟨b, 0, none⟩), .pointer (some ⟨b, o, none⟩)] W fun e w' => e = .returned (.tuple #[]) ∧ Acted 1 R W b wv (cutF F d) w' := by
  obtain ⟨A, cap, ys, hv, hr, hf, hc1, hc2⟩ := h.way d o hd (by omega)
  have hlife : W.cell? ⟨b, 1, none⟩ = some (.int .i64 F.life) := h.life
  have hgone : W.cell? ⟨b, 2, none⟩ = some (.int .i64 F.gone) := h.gone
  have hfz := h.fz
  have hle := hr.le
  have hmx := hr.max
  by_cases hl0 : F.life = 0
  · have hz : cutF F d = F := by unfold cutF cutN; rw [if_pos hl0, cutK_zero]
    have HH := Lib.hid (show Acted 1 R W b wv (cutF F d) W by rw [hz]; exact ⟨wv, h, Chg.refl _ _, fun _ h => .inl h⟩)
    have hl0I : (F.life : Int) = 0 := by omega
    clear h hv hr hf
    go_enter Try.func27, Try.ntmps27
    go_wp2_with fail
    exact bodyPost_ret (v := .tuple #[]) (by simp [results, Try.results27, go_sem]) rfl ⟨rfl, HH.out⟩
  · have hl0I : ¬ (F.life : Int) = 0 := by omega
    have hl0B : ((F.life : Int) == 0) = false := beq_eq_false_iff_ne.2 hl0I
    obtain ⟨n, hnn⟩ : ∃ n, n = (F.fs d).length := ⟨_, rfl⟩
    rw [← hnn] at hc1 hle hr hv hn hnum
    have HFIN := Lib.hid (fun k (hk : k ≤ n) (hlead : lead F.life (F.sent d) (F.fs d) = k) w (hw : Drawn W w) A' m c (hm : m = n - k) (hc : c = cap - k) (hA : A' = if cap = k then A else A.map (fun a => a.add (k * 3))) =>
      show Acted 1 R W b wv (cutF F d) ((w.setCell ⟨b, 2, none⟩ (.int .i64 ((F.gone : Int) + (k : Int)))).setCell ⟨b, o, none⟩ (.slice A' m c)) from hm ▸ hc ▸ (show cutF F d = cutK F d k by unfold cutF cutN; rw [if_neg hl0, hlead]) ▸ cut_acted d o k n cap A ys w h hd ho hk hnn hw hv hr hf A' hA)
    have HLE := Lib.hid (fun k (hk : k ≤ n) (h1 : ∀ j, j < k → old F.life (F.sent d) (nthF (F.fs d) j) = true) (h2 : k < n → old F.life (F.sent d) (nthF (F.fs d) k) = false) => lead_eq F.life (F.sent d) (F.fs d) k (by rw [← hnn]; exact hk) h1 (fun h => h2 (by rw [hnn]; exact h)))
    have HF := Lib.hid (fun k (hk : k < n) => hf k (by rw [← hnn]; exact hk))
    have HR := Lib.hid hr
    have HNU := Lib.hid hnum
    have hwg : ∀ k : Nat, k ≤ n → IntKind.i64.wrap ((F.gone : Int) + (k : Int)) = (F.gone : Int) + (k : Int) := fun k hk => by rw [IntKind.wrap_i64]; omega
    have HWG := Lib.hid hwg
    have hob : 3 ≤ o := by omega
    have hcapI : (n : Int) ≤ (cap : Int) := by omega
    have hcapM : (cap : Int) ≤ 9223372036854775807 := by unfold maxLen at hmx; omega
    clear h hv hr hf hnn hnum hwg hd ho hle hmx
    generalize F.fs d = fs at *
    generalize F.sent d = sd at *
    generalize F.life = li at *
    generalize F.gone = go at *
    go_enter Try.func27, Try.ntmps27
    go_wp2_with fail
    go_loopw [4] (fun i wr => ∃ k : Nat, k ≤ n ∧ i = .int .i64 k ∧ Hid (∀ j, j < k → old li sd (nthF fs j) = true) ∧ Drawn W wr) (fun i _ => n - (intOf i).toNat)
    case atStart => exact ⟨0, Nat.zero_le _, rfl, Lib.hid (fun j hj => absurd hj (Nat.not_lt_zero _)), Drawn.refl _⟩
    case round =>
      obtain ⟨k, hk, rfl, HOLD, hw⟩ := hrel
      have hd1 : wr.cell? ⟨b, o, none⟩ = some (.slice A n cap) := (drawn_cell hw _).trans hc1
      have hd2 : wr.cell? ⟨b, o + 1, none⟩ = some (.int .i64 sd) := (drawn_cell hw _).trans hc2
      have hd3 : wr.cell? ⟨b, 1, none⟩ = some (.int .i64 li) := (drawn_cell hw _).trans hlife
      have hd4 : wr.cell? ⟨b, 2, none⟩ = some (.int .i64 go) := (drawn_cell hw _).trans hgone
      have hdz : ∀ i, wr.frozen? ⟨b, i, none⟩ = false := fun i => (drawn_frozen hw _).trans (hfz i)
      have hwg := HWG.out k hk
      have HW := Lib.hid hw
      clear hw hc1 hc2 hlife hgone hfz
      by_cases hlt : k < n
      · obtain ⟨g, off, rfl, hgb, hy0, _, _, _⟩ := HR.out.at_ hlt
        obtain ⟨v1, v2, hy1, _, _, _⟩ := HF.out k hlt
        have hnm := HNU.out k hlt
        have hltI : (k : Int) < (n : Int) := by omega
        have hcell : wr.cell? ⟨g, off + k * 3, none⟩ = some (.int .i64 (nthF fs k).num) := (drawn_cell HW.out _).trans (hy0.trans hy1)
        have hwr : IntKind.i64.wrap ((sd : Int) - ((nthF fs k).num : Int)) = (sd : Int) - ((nthF fs k).num : Int) := by rw [IntKind.wrap_i64]; omega
        by_cases hold : old li sd (nthF fs k) = true
        · have HOLD' := Lib.hid (show ∀ j, j < k + 1 → old li sd (nthF fs j) = true from fun j hj => by
            rcases Nat.lt_succ_iff_lt_or_eq.1 hj with h1 | h1
            · exact HOLD.out j h1
            · rw [h1]; exact hold)
          have hI : (li : Int) ≤ (sd : Int) - ((nthF fs k).num : Int) := of_decide_eq_true hold
          clear hold hy0 hy1
          generalize (nthF fs k).num = nm at *
          go_wp2_with fail
          go_quiet (fail)
          go_wp2_with fail
          go_roundw
          case rel => exact ⟨k + 1, by omega, by go_num, HOLD', HW.out.step _⟩
          case measure => simp [intOf]; omega
        · have hI : ¬ (li : Int) ≤ (sd : Int) - ((nthF fs k).num : Int) := fun h => hold (decide_eq_true h)
          have HL := Lib.hid (HLE.out k hk HOLD.out (fun _ => by simpa using hold))
          have hkI : (k : Int) ≤ (n : Int) := by omega
          have hkI0 : (0 : Int) ≤ (k : Int) := by omega
          clear hold hy0 hy1
          generalize (nthF fs k).num = nm at *
          go_wp2_with fail
          go_quiet (fail)
          go_wp2_with fail
          all_goals exact bodyPost_end (v := .tuple #[]) (by simp [results, Try.results27, go_sem]) rfl ⟨rfl, HFIN.out k hk HL.out _ (HW.out.step _) _ _ _ (by omega) (by omega) (by rw [if_neg (by omega)]; simp [Addr.add_lit])⟩
      · obtain rfl : k = n := by omega
        have HL := Lib.hid (HLE.out k hk HOLD.out (fun h => absurd h (Nat.lt_irrefl _)))
        have hkI0 : (0 : Int) ≤ (k : Int) := by omega
        have hkI : (k : Int) ≤ (k : Int) := by omega
        go_wp2_with fail
        go_quiet (fail)
        go_wp2_with fail
        all_goals exact bodyPost_end (v := .tuple #[]) (by simp [results, Try.results27, go_sem]) rfl ⟨rfl, HFIN.out k hk HL.out _ (HW.out.step _) _ _ _ (by omega) (by omega) (by first | rw [if_pos (by assumption)] | rw [if_neg (by assumption)])⟩
end
end Go.Proofs.Ytogijioehdaefaa.Flt
