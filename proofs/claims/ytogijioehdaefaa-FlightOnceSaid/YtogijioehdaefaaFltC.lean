
/- Layer 16 (flight): the code's Put. -/
import Derived.Test.YtogijioehdaefaaFltB
import Derived.Deep.RegionHeld3
import Derived.Deep.DrawnRows
attribute [local go_sem ↓] Go.wp_at_zero Go.wp_at_succ
namespace Go.Proofs.Ytogijioehdaefaa.Flt
open Go.RowKit Go.Proofs.Ytogijioehdaefaa.Mem Go.Proofs.Ytogijioehdaefaa.Oct Go.Proofs.Ytogijioehdaefaa.Pkt Go.Proofs.Ytogijioehdaefaa.Def Go.Proofs.Ytogijioehdaefaa.Ed

theorem upd_upd {α : Type} (f : Nat → α) (d : Nat) (x y : α) : upd (upd f d x) d y = upd f d y := by
  funext k
  unfold upd
  split <;> rfl
/-- behind the append, ahead of what is taken off the head -/
def put1 (F : Fl) (d : Nat) (w : List UInt8) : Fl := { F with gone := F.gone, fs := upd F.fs d (putL F d w), sent := upd F.sent d (F.sent d + 1) }
theorem put_eq (F : Fl) (d : Nat) (w : List UInt8) : cutF (put1 F d w) d = put F d w := by
  unfold cutF cutK put1 put cutN
  simp only [upd_same, upd_upd]
theorem Acted.trans {k : Nat} {R : Nat → Prop} {W w w' : World} {b : Nat} {wv wv1 : Nat → Value} {F' : Fl} (hk : Chg (Mut b wv) W w) (hm : ∀ g, Mut b wv1 g → Mut b wv g ∨ W.heap.size ≤ g) (h : Acted k R w b wv1 F' w') : Acted k R W b wv F' w' := by
  obtain ⟨wv', h1, h2, h3⟩ := h
  refine ⟨wv', h1, hk.more h2 (fun g hg h4 => ?_), fun g hg => ?_⟩
  · rcases hm g h4 with h5 | h5
    · exact h5
    · omega
  · rcases h3 g hg with h4 | h4
    · exact hm g h4
    · exact .inr (Nat.le_trans hk.size h4)
/-- the append is done: frames are one more -/
theorem put_step {k : Nat} {R : Nat → Prop} {W W1 w3 w4 : World} {b d o n cap n2 c2 n3 c3 cap' : Nat} {F : Fl} {wv : Nat → Value} {A A2 A3 A' : Option Addr} {ys : List Value} {l : List UInt8} (h : FlAt k R W b F wv) (hd : d < 2) (ho : o = k + 2 + 2 * d) (hn : n = (F.fs d).length)
    (hv : wv d = .slice A n cap) (hf : FrOk (fun g => ¬ Mut b wv g ∧ R g) W ys (F.fs d)) (hR : ∀ g, W.heap.size ≤ g → R g) (hys : ys.length = n * 3)
    (hW1 : W1 = W.setCell ⟨b, o + 1, none⟩ (.int .i64 ((F.sent d : Int) + 1))) (hb : Below W1.heap.size W1 w3) (h2 : TextP (fun g => W1.heap.size ≤ g) w3 (.slice A2 n2 c2) l) (h3 : TextP (fun g => W1.heap.size ≤ g) w3 (.slice A3 n3 c3) l) (hl : l.length ≤ 1000) (T : TypeId)
    (r1 : RowAt w4 A' (n + 1) cap' (ys ++ [.int .i64 ((F.sent d : Int) + 1), .slice A2 n2 c2, .slice A3 n3 c3])) (r2 : (w3.alloc (.cells #[.int .i64 ((F.sent d : Int) + 1), .slice A2 n2 c2, .slice A3 n3 c3] T)).grownBy w4 (Value.ownBlock (.slice A n cap)))
    (r3 : LiesA (w3.alloc (.cells #[.int .i64 ((F.sent d : Int) + 1), .slice A2 n2 c2, .slice A3 n3 c3] T)) A A') :
    FlAt k R (w4.setCell ⟨b, o, none⟩ (.slice A' (n + 1) cap')) b (put1 F d l) (upd wv d (.slice A' (n + 1) cap')) ∧ Chg (Mut b wv) W (w4.setCell ⟨b, o, none⟩ (.slice A' (n + 1) cap')) ∧
      (∀ g, Mut b (upd wv d (.slice A' (n + 1) cap')) g → Mut b wv g ∨ W.heap.size ≤ g) := by
  have e0 : ((F.sent d : Int) + 1) = ((F.sent d + 1 : Nat) : Int) := by omega
  simp only [e0] at hW1 r1 r2 r3
  obtain ⟨w5, hw5⟩ : ∃ w5, w5 = w4.setCell ⟨b, o, none⟩ (.slice A' (n + 1) cap') := ⟨_, rfl⟩
  obtain ⟨wa, hwa⟩ : ∃ wa, wa = w3.alloc (.cells #[.int .i64 ((F.sent d + 1 : Nat) : Int), .slice A2 n2 c2, .slice A3 n3 c3] T) := ⟨_, rfl⟩
  rw [← hw5]
  rw [← hwa] at r2 r3
  have hb0 := h.hb
  have hbb := h.ap d hd
  rw [hv] at hbb
  have c1 : Chg (fun g => g = b) W W1 := by rw [hW1]; exact chg_set W ⟨b, o + 1, none⟩ _
  have hs1 : W1.heap.size = W.heap.size := by rw [hW1]; simp [World.setCell]
  have c2' : Chg (fun _ => False) W1 wa := (chg_below hb).trans (by rw [hwa]; exact chg_alloc w3 _)
  have hsa : W.heap.size ≤ wa.heap.size := by rw [← hs1]; exact c2'.size
  have c3 := chg_grown r2
  have c4 : Chg (fun g => g = b) w4 w5 := by rw [hw5]; exact chg_set w4 ⟨b, o, none⟩ _
  have cA : Chg (fun g => g = b ∨ (wv d).ownBlock = some g) W wa := (c1.mono fun _ e => .inl e).trans (c2'.mono fun _ e => e.elim)
  have c34 : Chg (fun g => g = b ∨ (wv d).ownBlock = some g) wa w5 := (c3.mono fun g e => .inr (by rw [hv]; exact e.symm)).trans (c4.mono fun _ e => .inl e)
  have cW := cA.trans c34
  have hsz4 : wa.heap.size ≤ w5.heap.size := c34.size
  -- the flight's own cells
  have hn4 : ¬ (some b = Value.ownBlock (.slice A n cap)) := fun e => hbb e.symm
  have hb1 : b < W1.heap.size := by omega
  have hba : b < wa.heap.size := by omega
  have cell4 : ∀ i, w4.cell? ⟨b, i, none⟩ = W1.cell? ⟨b, i, none⟩ := fun i => by
    rw [c3.cell (p := ⟨b, i, none⟩) hba hn4, c2'.cell (p := ⟨b, i, none⟩) hb1 (fun h => h)]
  have cell5 : ∀ i, i ≠ o → i ≠ o + 1 → w5.cell? ⟨b, i, none⟩ = W.cell? ⟨b, i, none⟩ := fun i e1 e2 => by
    rw [hw5, set_other e1, cell4, hW1, set_other e2]
  have hsent : w5.cell? ⟨b, o + 1, none⟩ = some (.int .i64 ((F.sent d + 1 : Nat) : Int)) := by
    rw [hw5, set_other (by omega), cell4, hW1]
    exact set_self (x := .int .i64 (F.sent d)) (by have := h.sent d hd; rwa [← show o + 1 = k + 3 + 2 * d by omega] at this)
  have hslc : w5.cell? ⟨b, o, none⟩ = some (.slice A' (n + 1) cap') := by
    rw [hw5]
    refine set_self (x := wv d) ?_
    rw [cell4, hW1, set_other (by omega)]
    have := h.l d hd
    rwa [← show o = k + 2 + 2 * d by omega] at this
  have hfz : ∀ i, w5.frozen? ⟨b, i, none⟩ = false := fun i => by
    rw [hw5, set_fz, c3.frozen (p := ⟨b, i, none⟩) hba hn4, c2'.frozen (p := ⟨b, i, none⟩) hb1 (fun h => h), hW1, set_fz]
    exact h.fz i
  have hlie : ∀ g, (Value.slice A' (n + 1) cap').ownBlock = some g → (wv d).ownBlock = some g ∨ wa.heap.size ≤ g := fun g hg => by
    rcases r3 with e | ⟨a, e, hge⟩
    · left
      rw [hv]
      subst e
      cases A' with
      | none => simp [Value.ownBlock] at hg
      | some a => exact hg
    · right
      subst e
      simp only [Value.ownBlock, Option.some.injEq] at hg
      omega
  have hmut : ∀ g, Mut b (upd wv d (.slice A' (n + 1) cap')) g → Mut b wv g ∨ wa.heap.size ≤ g := fun g hg => by
    rcases hg.cases with rfl | ⟨e, he, h1⟩
    · exact .inl (.inl rfl)
    · by_cases hed : e = d
      · subst hed
        rw [upd_same] at h1
        rcases hlie g h1 with h2 | h2
        · exact .inl (Mut.d hd h2)
        · exact .inr h2
      · rw [upd_other _ _ hed] at h1
        exact .inl (Mut.d he h1)
  have hwa3 : w3.heap.size < wa.heap.size := by rw [hwa]; simp
  have hw13 := hb.size
  have text : ∀ {v : Value}, TextP (fun g => W1.heap.size ≤ g) w3 v l → TextP (fun g => ¬ Mut b (upd wv d (.slice A' (n + 1) cap')) g ∧ R g) w5 v l := fun ht => by
    have t1 := ht.chg (show Chg (fun _ => False) w3 wa by rw [hwa]; exact chg_alloc w3 _) (r := fun g => W1.heap.size ≤ g ∧ g < w3.heap.size) (fun _ _ _ h => h) (fun g hg hp => ⟨hp, hg⟩)
    refine t1.chg c34 (fun g hg hp => ?_) (fun g hg hp => ⟨fun hm => ?_, hR g (by have := hp.1; omega)⟩)
    · rintro (rfl | h1)
      · have := hp.1
        omega
      · have := (h.row d hd).lt g h1
        have := hp.1
        omega
    · rcases hmut g hm with h1 | h1
      · have := h.lt g h1
        have := hp.1
        omega
      · have := hp.2
        omega
  have hrow : RowF (fun g => ¬ Mut b (upd wv d (.slice A' (n + 1) cap')) g ∧ R g) w5 (.slice A' (n + 1) cap') (putL F d l) := by
    have hlen : n + 1 = (putL F d l).length := by unfold putL; rw [List.length_append, hn]; rfl
    refine ⟨A', cap', _, by rw [hlen], ?_, FrOk.append ?_ (by rw [hys, hn]) (FrOk.one (text h2) (text h3) hl hl)⟩
    · rw [← hlen]
      refine r1.chg c4 (fun a ha e => ?_)
      rcases hlie a.block (by rw [ha]; rfl) with h1 | h1
      · rw [hv] at h1
        exact hbb (e ▸ h1)
      · omega
    · refine hf.chg cW (fun g _ hp => ?_) (fun g hg hp => ⟨fun hm => ?_, hp.2⟩)
      · rintro (rfl | h1)
        · exact hp.1 (.inl rfl)
        · exact hp.1 (Mut.d hd h1)
      · rcases hmut g hm with h1 | h1
        · exact hp.1 h1
        · omega
  obtain ⟨q1, q2⟩ := h.turn (w' := w5) (gone' := F.gone) (sent' := F.sent d + 1) (v' := .slice A' (n + 1) cap') (l' := putL F d l) hd cW ((cell5 _ (by omega) (by omega)).trans h.gone) (by rw [← show o = k + 2 + 2 * d by omega]; exact hslc)
    (by rw [show k + 3 + 2 * d = o + 1 by omega]; exact hsent) (fun i e1 e2 e3 => cell5 i (by omega) (by omega)) hfz (fun g hg => by rcases hlie g hg with h1 | h1; exact .inl h1; exact .inr (by omega)) hrow
  refine ⟨q1, cW.mono fun g e => ?_, q2⟩
  rcases e with rfl | e
  · exact .inl rfl
  · exact Mut.d hd e
end Go.Proofs.Ytogijioehdaefaa.Flt
