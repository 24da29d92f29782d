
/- Layer 16 (flight): a flight that stands in memory, the code's or the document's; what a change of one direction leaves. -/
import Derived.Test.YtogijioehdaefaaFltW
namespace Go.Proofs.Ytogijioehdaefaa.Flt
open Go.RowKit Go.Proofs.Ytogijioehdaefaa.Mem Go.Proofs.Ytogijioehdaefaa.Oct Go.Proofs.Ytogijioehdaefaa.Pkt Go.Proofs.Ytogijioehdaefaa.Def Go.Proofs.Ytogijioehdaefaa.Ed

/-- what of a flight may turn: its block, its two rows -/
def Mut (b : Nat) (wv : Nat → Value) (g : Nat) : Prop := g = b ∨ (wv 0).ownBlock = some g ∨ (wv 1).ownBlock = some g
/-- cells that hold frames, their bytes in blocks that p allows -/
def FrOk (p : Nat → Prop) (w : World) (ys : List Value) (l : List Frm) : Prop :=
  ∀ i, i < l.length → ∃ v1 v2, ys[i * 3]? = some (.int .i64 (nthF l i).num) ∧ ys[i * 3 + 1]? = some v1 ∧ ys[i * 3 + 2]? = some v2 ∧ TextP p w v1 (nthF l i).wire ∧ TextP p w v2 (nthF l i).first ∧ (nthF l i).wire.length ≤ 1000 ∧ (nthF l i).first.length ≤ 1000
theorem FrOk.nil (p : Nat → Prop) (w : World) : FrOk p w [] [] := fun _ h => absurd h (Nat.not_lt_zero _)
section
variable {p q r : Nat → Prop} {w w' : World} {ys : List Value} {l : List Frm}
theorem FrOk.chg (h : FrOk p w ys l) (hk : Chg q w w') (hq : ∀ g, g < w.heap.size → p g → ¬ q g) (hr : ∀ g, g < w.heap.size → p g → r g) : FrOk r w' ys l := fun i hi => by
  obtain ⟨v1, v2, h1, h2, h3, h4, h5, h6⟩ := h i hi
  exact ⟨v1, v2, h1, h2, h3, h4.chg hk hq hr, h5.chg hk hq hr, h6⟩
theorem FrOk.drop (h : FrOk p w ys l) (k : Nat) : FrOk p w (ys.drop (k * 3)) (l.drop k) := fun i hi => by
  rw [List.length_drop] at hi
  obtain ⟨v1, v2, h1, h2, h3, h4⟩ := h (k + i) (by omega)
  rw [nthF_drop]
  refine ⟨v1, v2, ?_, ?_, ?_, h4⟩ <;> rw [List.getElem?_drop]
  · rw [← Nat.add_mul]; exact h1
  · rw [show k * 3 + (i * 3 + 1) = (k + i) * 3 + 1 by omega]; exact h2
  · rw [show k * 3 + (i * 3 + 2) = (k + i) * 3 + 2 by omega]; exact h3
theorem FrOk.take (h : FrOk p w ys l) (k : Nat) : FrOk p w (ys.take (k * 3)) (l.take k) := fun i hi => by
  rw [List.length_take] at hi
  obtain ⟨v1, v2, h1, h2, h3, h4⟩ := h i (by omega)
  rw [nthF_take _ (by omega)]
  refine ⟨v1, v2, ?_, ?_, ?_, h4⟩ <;> rw [List.getElem?_take, if_pos (by omega)]
  · exact h1
  · exact h2
  · exact h3
theorem FrOk.append {zs : List Value} {m : List Frm} (h : FrOk p w ys l) (hl : ys.length = l.length * 3) (k : FrOk p w zs m) : FrOk p w (ys ++ zs) (l ++ m) := fun i hi => by
  rw [List.length_append] at hi
  by_cases hlt : i < l.length
  · obtain ⟨v1, v2, h1, h2, h3, h4⟩ := h i hlt
    rw [nthF_append_left _ _ hlt]
    refine ⟨v1, v2, ?_, ?_, ?_, h4⟩ <;> rw [List.getElem?_append_left (by omega)]
    · exact h1
    · exact h2
    · exact h3
  · obtain ⟨v1, v2, h1, h2, h3, h4⟩ := k (i - l.length) (by omega)
    have e : nthF (l ++ m) i = nthF m (i - l.length) := by
      unfold nthF
      rw [List.getD_eq_getElem?_getD, List.getD_eq_getElem?_getD, List.getElem?_append_right (by omega)]
    rw [e]
    refine ⟨v1, v2, ?_, ?_, ?_, h4⟩ <;> rw [List.getElem?_append_right (by omega)]
    · rw [show i * 3 - ys.length = (i - l.length) * 3 by omega]; exact h1
    · rw [show i * 3 + 1 - ys.length = (i - l.length) * 3 + 1 by omega]; exact h2
    · rw [show i * 3 + 2 - ys.length = (i - l.length) * 3 + 2 by omega]; exact h3
theorem FrOk.one {n : Nat} {v1 v2 : Value} {x y : List UInt8} (h1 : TextP p w v1 x) (h2 : TextP p w v2 y) (hx : x.length ≤ 1000) (hy : y.length ≤ 1000) : FrOk p w [.int .i64 n, v1, v2] [⟨n, x, y⟩] := fun i hi => by
  obtain rfl : i = 0 := by simpa using hi
  exact ⟨v1, v2, rfl, rfl, rfl, h1, h2, hx, hy⟩
theorem FrOk.set {k : Nat} (h : FrOk p w ys l) (hy : ys.length = l.length * 3) (hk : k < l.length) {v : Value} {x : List UInt8} (hv : TextP p w v x) (hx : x.length ≤ 1000) : FrOk p w (ys.set (k * 3 + 1) v) (l.set k { nthF l k with wire := x }) := fun i hi => by
  rw [List.length_set] at hi
  obtain ⟨v1, v2, h1, h2, h3, h4, h5, h6, h7⟩ := h i hi
  rw [nthF_set _ _ _ _ hi]
  by_cases e : k = i
  · subst e
    rw [if_pos rfl]
    refine ⟨v, v2, ?_, ?_, ?_, hv, h5, hx, h7⟩
    · rw [List.getElem?_set_ne (by omega)]; exact h1
    · rw [List.getElem?_set_self (by omega)]
    · rw [List.getElem?_set_ne (by omega)]; exact h3
  · rw [if_neg e]
    refine ⟨v1, v2, ?_, ?_, ?_, h4, h5, h6, h7⟩
    · rw [List.getElem?_set_ne (by omega)]; exact h1
    · rw [List.getElem?_set_ne (by omega)]; exact h2
    · rw [List.getElem?_set_ne (by omega)]; exact h3
end

/-- one direction's row -/
def RowF (p : Nat → Prop) (w : World) (v : Value) (l : List Frm) : Prop := ∃ A cap ys, v = .slice A l.length cap ∧ RowAt w A l.length cap ys ∧ FrOk p w ys l
theorem RowF.chg {p q r : Nat → Prop} {w w' : World} {v : Value} {l : List Frm} (h : RowF p w v l) (hk : Chg q w w') (hv : ∀ g, v.ownBlock = some g → ¬ q g) (hq : ∀ g, g < w.heap.size → p g → ¬ q g) (hr : ∀ g, g < w.heap.size → p g → r g) : RowF r w' v l := by
  obtain ⟨A, cap, ys, rfl, h1, h2⟩ := h
  exact ⟨A, cap, ys, rfl, h1.chg hk (fun a ha => hv _ (by rw [ha]; rfl)), h2.chg hk hq hr⟩
theorem RowF.lt {p : Nat → Prop} {w : World} {v : Value} {l : List Frm} (h : RowF p w v l) : ∀ g, v.ownBlock = some g → g < w.heap.size := by
  obtain ⟨A, cap, ys, rfl, h1, _⟩ := h
  intro g hg
  cases A with
  | none => simp [Value.ownBlock] at hg
  | some a =>
    simp only [Value.ownBlock, Option.some.injEq] at hg
    subst hg
    exact h1.blk a rfl
theorem RowF.nil (p : Nat → Prop) (w : World) : RowF p w (.slice none 0 0) [] := ⟨none, 0, [], rfl, RowAt.nil w, FrOk.nil p w⟩

/-- a flight in block b; k = 1: the code's, whose first cell says that it was made; k = 0: the document's -/
structure FlAt (k : Nat) (R : Nat → Prop) (w : World) (b : Nat) (F : Fl) (wv : Nat → Value) : Prop where
  hb : b < w.heap.size
  made : k = 1 → w.cell? ⟨b, 0, none⟩ = some (.bool true)
  life : w.cell? ⟨b, k, none⟩ = some (.int .i64 F.life)
  gone : w.cell? ⟨b, k + 1, none⟩ = some (.int .i64 F.gone)
  l : ∀ d, d < 2 → w.cell? ⟨b, k + 2 + 2 * d, none⟩ = some (wv d)
  sent : ∀ d, d < 2 → w.cell? ⟨b, k + 3 + 2 * d, none⟩ = some (.int .i64 (F.sent d))
  fz : ∀ i, w.frozen? ⟨b, i, none⟩ = false
  row : ∀ d, d < 2 → RowF (fun g => ¬ Mut b wv g ∧ R g) w (wv d) (F.fs d)
  ap : ∀ d, d < 2 → (wv d).ownBlock ≠ some b
  ap2 : ∀ g, (wv 0).ownBlock = some g → (wv 1).ownBlock ≠ some g
section
variable {k : Nat} {R q : Nat → Prop} {w w' : World} {b : Nat} {F : Fl} {wv : Nat → Value}
theorem Mut.d {d g : Nat} (hd : d < 2) (h : (wv d).ownBlock = some g) : Mut b wv g := by
  obtain rfl | rfl : d = 0 ∨ d = 1 := by omega
  · exact .inr (.inl h)
  · exact .inr (.inr h)
theorem Mut.cases {g : Nat} (h : Mut b wv g) : g = b ∨ ∃ d, d < 2 ∧ (wv d).ownBlock = some g := by
  rcases h with h | h | h
  · exact .inl h
  · exact .inr ⟨0, by decide, h⟩
  · exact .inr ⟨1, by decide, h⟩
theorem FlAt.lt (h : FlAt k R w b F wv) : ∀ g, Mut b wv g → g < w.heap.size := fun g hg => by
  rcases hg.cases with rfl | ⟨d, hd, h1⟩
  · exact h.hb
  · exact (h.row d hd).lt g h1
/-- what does not touch it leaves it -/
theorem FlAt.chg {R' : Nat → Prop} (h : FlAt k R w b F wv) (hk : Chg q w w') (hq : ∀ g, Mut b wv g → ¬ q g) (hp : ∀ g, g < w.heap.size → ¬ Mut b wv g → R g → ¬ q g ∧ R' g) : FlAt k R' w' b F wv := by
  have hb := h.hb
  have hnb : ¬ q b := hq b (.inl rfl)
  have key : ∀ i, w'.cell? ⟨b, i, none⟩ = w.cell? ⟨b, i, none⟩ := fun i => hk.cell (p := ⟨b, i, none⟩) hb hnb
  exact ⟨Nat.lt_of_lt_of_le hb hk.size, fun hk1 => (key _).trans (h.made hk1), (key _).trans h.life, (key _).trans h.gone, fun d hd => (key _).trans (h.l d hd), fun d hd => (key _).trans (h.sent d hd),
    fun i => (hk.frozen (p := ⟨b, i, none⟩) hb hnb).trans (h.fz i), fun d hd => (h.row d hd).chg hk (fun g hg => hq g (Mut.d hd hg)) (fun g hg hpg => (hp g hg hpg.1 hpg.2).1) (fun g hg hpg => ⟨hpg.1, (hp g hg hpg.1 hpg.2).2⟩), h.ap, h.ap2⟩
/-- new memory leaves it -/
theorem FlAt.below (h : FlAt k R w b F wv) (hk : Below w.heap.size w w') : FlAt k R w' b F wv :=
  h.chg (chg_below hk) (fun _ _ h => h) (fun _ _ _ hR => ⟨fun h => h, hR⟩)
/-- one direction is changed -/
theorem FlAt.turn {d gone' sent' : Nat} {v' : Value} {l' : List Frm} (h : FlAt k R w b F wv) (hd : d < 2) (hk : Chg (fun g => g = b ∨ (wv d).ownBlock = some g) w w')
    (hg : w'.cell? ⟨b, k + 1, none⟩ = some (.int .i64 gone')) (hl : w'.cell? ⟨b, k + 2 + 2 * d, none⟩ = some v') (hs : w'.cell? ⟨b, k + 3 + 2 * d, none⟩ = some (.int .i64 sent'))
    (ho : ∀ i, i ≠ k + 1 → i ≠ k + 2 + 2 * d → i ≠ k + 3 + 2 * d → w'.cell? ⟨b, i, none⟩ = w.cell? ⟨b, i, none⟩) (hz : ∀ i, w'.frozen? ⟨b, i, none⟩ = false)
    (hv : ∀ g, v'.ownBlock = some g → (wv d).ownBlock = some g ∨ w.heap.size ≤ g) (hrow : RowF (fun g => ¬ Mut b (upd wv d v') g ∧ R g) w' v' l') :
    FlAt k R w' b { F with gone := gone', fs := upd F.fs d l', sent := upd F.sent d sent' } (upd wv d v') ∧ (∀ g, Mut b (upd wv d v') g → Mut b wv g ∨ w.heap.size ≤ g) := by
  have hb := h.hb
  have hmut : ∀ g, Mut b (upd wv d v') g → Mut b wv g ∨ w.heap.size ≤ g := fun g hg => by
    rcases hg.cases with rfl | ⟨e, he, h1⟩
    · exact .inl (.inl rfl)
    · by_cases hed : e = d
      · subst hed
        rw [upd_same] at h1
        rcases hv g h1 with h2 | h2
        · exact .inl (Mut.d hd h2)
        · exact .inr h2
      · rw [upd_other _ _ hed] at h1
        exact .inl (Mut.d he h1)
  have hbv : v'.ownBlock ≠ some b := fun e => by
    rcases hv b e with h1 | h1
    · exact h.ap d hd h1
    · omega
  have hap2 : ∀ e, e < 2 → e ≠ d → ∀ g, (wv e).ownBlock = some g → v'.ownBlock ≠ some g := fun e he hed g h1 h2 => by
    rcases hv g h2 with h3 | h3
    · obtain ⟨rfl, rfl⟩ | ⟨rfl, rfl⟩ : (e = 0 ∧ d = 1) ∨ (e = 1 ∧ d = 0) := by omega
      · exact h.ap2 g h1 h3
      · exact h.ap2 g h3 h1
    · have := (h.row e he).lt g h1
      omega
  refine ⟨⟨Nat.lt_of_lt_of_le hb hk.size, fun hk1 => (ho 0 (by omega) (by omega) (by omega)).trans (h.made hk1), (ho k (by omega) (by omega) (by omega)).trans h.life, hg, fun e he => ?_, fun e he => ?_, hz, fun e he => ?_, fun e he => ?_, fun g h1 h2 => ?_⟩, hmut⟩
  · by_cases hed : e = d
    · subst hed; rw [upd_same]; exact hl
    · rw [upd_other _ _ hed]
      exact (ho _ (by omega) (by omega) (by omega)).trans (h.l e he)
  · by_cases hed : e = d
    · subst hed; simp only [upd_same]; exact hs
    · simp only [upd_other _ _ hed]
      exact (ho _ (by omega) (by omega) (by omega)).trans (h.sent e he)
  · by_cases hed : e = d
    · subst hed; simp only [upd_same]; exact hrow
    · simp only [upd_other _ _ hed]
      refine (h.row e he).chg hk (fun g h1 h2 => ?_) (fun g _ hp h2 => ?_) (fun g hlt hp => ⟨fun hm => ?_, hp.2⟩)
      · rcases h2 with rfl | h2
        · exact h.ap e he h1
        · obtain ⟨rfl, rfl⟩ | ⟨rfl, rfl⟩ : (e = 0 ∧ d = 1) ∨ (e = 1 ∧ d = 0) := by omega
          · exact h.ap2 g h1 h2
          · exact h.ap2 g h2 h1
      · rcases h2 with rfl | h2
        · exact hp.1 (.inl rfl)
        · exact hp.1 (Mut.d hd h2)
      · rcases hmut g hm with h3 | h3
        · exact hp.1 h3
        · omega
  · by_cases hed : e = d
    · subst hed; rw [upd_same]; exact hbv
    · rw [upd_other _ _ hed]; exact h.ap e he
  · by_cases h0 : d = 0
    · subst h0
      rw [upd_same] at h1
      rw [upd_other _ _ (by decide)] at h2
      exact hap2 1 (by decide) (by decide) g h2 h1
    · obtain rfl : d = 1 := by omega
      rw [upd_same] at h2
      rw [upd_other _ _ (by decide)] at h1
      exact hap2 0 (by decide) (by decide) g h1 h2
end
/-- what an act leaves: the flight as it is then; nothing else has turned -/
def Acted (k : Nat) (R : Nat → Prop) (w : World) (b : Nat) (wv : Nat → Value) (F' : Fl) (w' : World) : Prop := ∃ wv', FlAt k R w' b F' wv' ∧ Chg (Mut b wv) w w' ∧ (∀ g, Mut b wv' g → Mut b wv g ∨ w.heap.size ≤ g)
end Go.Proofs.Ytogijioehdaefaa.Flt
