
/- Layer 5 (deframe): the document's Scan. -/
import Derived.Test.YtfieinajkkcelaaDefL
import Derived.Test.YtfieinajkkcelaaDefN
import Derived.Test.YtfieinajkkcelaaFrmR
import Derived.RegionTactic
import Derived.BigRegion
namespace Go.Proofs.Ytfieinajkkcelaa.Def
open Go.RowKit Go.Proofs.Ytfieinajkkcelaa.Mem Go.Proofs.Ytfieinajkkcelaa.Oct Go.Proofs.Ytfieinajkkcelaa.Pkt Go.Proofs.Ytfieinajkkcelaa.DefM Go.Proofs.Ytfieinajkkcelaa.FrmM

theorem wpList_app_txt' (w : World) {ops : Array Oper} {rest : List Oper} {o : Oper} {a : Act} {Q : Exit → Act → World → Prop} (hgd : o.guard = none) (s x : Operand)
    (ho : o.op = .call { callee := .builtin .append, args := #[s, x], argTypes := #[23, 23] })
    (base : Nat) (v : Value) (xs : List Value) (hs : a.eval s = v) (hown : OwnV 22 w base v xs) (A : Option Addr) (n k c : Nat) (cs : Array Value) (hcs : cs = #[.slice A n k]) (G : Nat)
    (hx : a.eval x = .slice (some ⟨G, 0, none⟩) 1 c) (hG : G = w.heap.size) (hb : base ≤ w.heap.size) (hlen : xs.length ≤ 1000000)
    (h : ∀ v' w', OwnV 22 w' base v' (xs ++ [.slice A n k]) → w.grownBy w' v.ownBlock → Lies w v v' → wpList Try.prog ops Q rest (a.put o.dst v') w') : wpList Try.prog ops Q (o :: rest) a (w.alloc (.cells cs 22)) := by
  subst hG
  exact wpList_app_txt w hgd s x ho base v xs hs hown A n k c cs hcs hx hb hlen h
/-- a tally that stands in block t -/
structure TalAt (w : World) (t : Nat) (g b l n : Nat) : Prop where
  c0 : w.cell? ⟨t, 0, none⟩ = some (.int .i64 g)
  c1 : w.cell? ⟨t, 1, none⟩ = some (.int .i64 b)
  c2 : w.cell? ⟨t, 2, none⟩ = some (.int .i64 l)
  c3 : w.cell? ⟨t, 3, none⟩ = some (.int .i64 n)
  fz : ∀ i, w.frozen? ⟨t, i, none⟩ = false
theorem TalAt.chg {q : Nat → Prop} {w w' : World} {t g b l n : Nat} (h : TalAt w t g b l n) (ht : t < w.heap.size) (hk : Chg q w w') (hq : ¬ q t) : TalAt w' t g b l n :=
  ⟨(hk.cell (p := ⟨t, 0, none⟩) ht hq).trans h.c0, (hk.cell (p := ⟨t, 1, none⟩) ht hq).trans h.c1, (hk.cell (p := ⟨t, 2, none⟩) ht hq).trans h.c2, (hk.cell (p := ⟨t, 3, none⟩) ht hq).trans h.c3, fun i => (hk.frozen (p := ⟨t, i, none⟩) ht hq).trans (h.fz i)⟩
theorem TalAt.set0 {w : World} {t g b l n : Nat} (h : TalAt w t g b l n) (x : Nat) : TalAt (w.setCell ⟨t, 0, none⟩ (.int .i64 x)) t x b l n := ⟨set_self h.c0, (set_other (by decide)).trans h.c1, (set_other (by decide)).trans h.c2, (set_other (by decide)).trans h.c3, fun i => set_fz.trans (h.fz i)⟩
theorem TalAt.set1 {w : World} {t g b l n : Nat} (h : TalAt w t g b l n) (x : Nat) : TalAt (w.setCell ⟨t, 1, none⟩ (.int .i64 x)) t g x l n := ⟨(set_other (by decide)).trans h.c0, set_self h.c1, (set_other (by decide)).trans h.c2, (set_other (by decide)).trans h.c3, fun i => set_fz.trans (h.fz i)⟩
theorem TalAt.set2 {w : World} {t g b l n : Nat} (h : TalAt w t g b l n) (x : Nat) : TalAt (w.setCell ⟨t, 2, none⟩ (.int .i64 x)) t g b x n := ⟨(set_other (by decide)).trans h.c0, (set_other (by decide)).trans h.c1, set_self h.c2, (set_other (by decide)).trans h.c3, fun i => set_fz.trans (h.fz i)⟩
theorem TalAt.set3 {w : World} {t g b l n : Nat} (h : TalAt w t g b l n) (x : Nat) : TalAt (w.setCell ⟨t, 3, none⟩ (.int .i64 x)) t g b l x := ⟨(set_other (by decide)).trans h.c0, (set_other (by decide)).trans h.c1, (set_other (by decide)).trans h.c2, set_self h.c3, fun i => set_fz.trans (h.fz i)⟩

/-- a list of finds that grows -/
structure Fnd (B : Nat) (o : Value) (vs : List Value) (O : List (List UInt8)) (w : World) : Prop where
  out : OwnV 22 w B o vs
  len : vs.length = O.length
  txt : ∀ i, i < vs.length → ∃ u, vs[i]? = some u ∧ TextP (fun g => B ≤ g ∧ o.ownBlock ≠ some g) w u (nthT O i)
theorem Fnd.nil (B : Nat) (w : World) : Fnd B (.slice none 0 0) [] [] w := ⟨OwnV.nil _ _ _, rfl, fun _ h => by simp at h⟩
theorem Fnd.chg {q : Nat → Prop} {B : Nat} {o : Value} {vs : List Value} {O : List (List UInt8)} {w w' : World} (h : Fnd B o vs O w) (hk : Chg q w w') (hq : ∀ g, B ≤ g → ¬ q g) : Fnd B o vs O w' :=
  ⟨OwnV.chg h.out hk (fun g hg => hq g (h.out.lt g hg).1), h.len, fun i hi => by
    obtain ⟨u, h1, h2⟩ := h.txt i hi
    exact ⟨u, h1, h2.chg hk (fun g _ hp => hq g hp.1) (fun _ _ hp => hp)⟩⟩
/-- one more is found: x lies in blocks newer than w0's -/
theorem Fnd.more {B : Nat} {o o' : Value} {vs : List Value} {O : List (List UInt8)} {w w1 : World} (h : Fnd B o vs O w) {x : Value} {X : List UInt8} {w0 : World} (hw : B ≤ w0.heap.size) (ho0 : ∀ g, o.ownBlock = some g → g < w0.heap.size) (hx : Own 5 w w0.heap.size x X)
    (ho : OwnV 22 w1 B o' (vs ++ [x])) (hg : w.grownBy w1 o.ownBlock) (hl : Lies w o o') : Fnd B o' (vs ++ [x]) (O ++ [X]) w1 := by
  have hk := chg_grown hg
  refine ⟨ho, by simp [h.len], fun i hi => ?_⟩
  rcases Nat.lt_or_ge i vs.length with hi' | hi'
  · obtain ⟨u, h1, h2⟩ := h.txt i hi'
    refine ⟨u, by rw [List.getElem?_append_left hi']; exact h1, ?_⟩
    have e1 : nthT (O ++ [X]) i = nthT O i := by
      unfold nthT
      simp only [List.getD]
      rw [List.getElem?_append_left (by rw [← h.len]; exact hi')]
    rw [e1]
    refine h2.chg hk (fun g _ hp hgr => hp.2 hgr.symm) (fun g hgl hp => ⟨hp.1, fun hg' => ?_⟩)
    rcases hl g hg' with h3 | h3
    · exact hp.2 h3
    · omega
  · have hi2 : i = vs.length := by simp at hi; omega
    subst hi2
    refine ⟨x, by simp, ?_⟩
    have e1 : nthT (O ++ [X]) vs.length = X := by unfold nthT; rw [h.len]; simp [List.getD]
    rw [e1]
    refine (TextP.own (p := fun g => w0.heap.size ≤ g) hx (fun g hg _ => hg)).chg hk (fun g hgl hp hgr => ?_) (fun g hgl hp => ⟨by omega, fun hg' => ?_⟩)
    · have := ho0 g hgr.symm
      omega
    · rcases hl g hg' with h3 | h3
      · have := ho0 g h3
        omega
      · omega
theorem Fnd.texts {B : Nat} {o : Value} {vs : List Value} {O : List (List UInt8)} {w : World} (h : Fnd B o vs O w) : ∃ A c, o = .slice A O.length c ∧ O.length ≤ c ∧ c ≤ maxLen ∧ Texts w w.heap.size A O := by
  have hl := h.len
  rcases h.out.2 with ⟨rfl, h0⟩ | ⟨g, cap, cur, rfl, hbg, hg, hn, hm, hcs, htk⟩
  · rw [hl] at h0
    exact ⟨none, 0, by rw [h0], by omega, Nat.zero_le _, fun hp => by omega⟩
  · refine ⟨some ⟨g, 0, none⟩, cap, by rw [hl], by omega, hm, fun _ => ⟨g, 0, rfl, (Array.getElem?_eq_some_iff.1 hg).1, fun i hi => ?_⟩⟩
    obtain ⟨u, h1, A, c, rfl, h2, h3, h4⟩ := h.txt i (by omega)
    refine ⟨A, c, ?_, h2, h3, h4.bytes⟩
    rw [cell_of_row w g _ cur _ (0, 0) hg, ← h1, ← htk, List.getElem?_take, if_pos (by omega)]
    simp

/-- what stands while the document's Scan goes on -/
structure Sc (W : World) (g b l n : Nat) (o : Value) (vs : List Value) (O : List (List UInt8)) (w : World) : Prop where
  below : Below W.heap.size W w
  size : W.heap.size + 2 ≤ w.heap.size
  res : TalAt w W.heap.size 0 0 0 0
  tal : TalAt w (W.heap.size + 1) g b l n
  fnd : Fnd (W.heap.size + 2) o vs O w
/-- what Scan answers -/
def GivesScan (w : World) (R : St × List (List UInt8)) (e : Ending) (w' : World) : Prop :=
  ∃ A c, e = .returned (.tuple #[.slice A R.2.length c, .agg #[.int .i64 R.1.good, .int .i64 R.1.bad, .int .i64 R.1.long, .int .i64 R.1.noise]]) ∧ R.2.length ≤ c ∧ c ≤ maxLen ∧ Texts w' w'.heap.size A R.2 ∧ Below w.heap.size w w'
theorem gives_scan {W w : World} {R : St × List (List UInt8)} {g b l n : Nat} {o : Value} {vs : List Value} {O : List (List UInt8)} {w' : World} (h : Sc W g b l n o vs O w) (h1 : R.2 = O) (h2 : R.1.good = g) (h3 : R.1.bad = b) (h4 : R.1.long = l) (h5 : R.1.noise = n)
    (hk : Chg (fun x => x = W.heap.size) w w') : GivesScan W R (.returned (.tuple #[o, .agg #[.int .i64 g, .int .i64 b, .int .i64 l, .int .i64 n]])) w' := by
  obtain ⟨⟨a, st, g', b', l', n'⟩, O'⟩ := R
  simp only at h1 h2 h3 h4 h5
  subst h1 h2 h3 h4 h5
  obtain ⟨A, c, rfl, e1, e2, e3⟩ := (h.fnd.chg hk (fun g hg hq => by omega)).texts
  exact ⟨A, c, rfl, e1, e2, e3, Chg.below h.below hk (by have := h.size; omega) (fun g hg => by omega)⟩
theorem Sc.more {W w w' : World} {g b l n : Nat} {o : Value} {vs : List Value} {O : List (List UInt8)} (h : Sc W g b l n o vs O w) (hk : Below w.heap.size w w') : Sc W g b l n o vs O w' :=
  ⟨below_next h.below hk, Nat.le_trans h.size hk.size, h.res.chg (by have := h.size; omega) (chg_below hk) (by simp), h.tal.chg (by have := h.size; omega) (chg_below hk) (by simp), h.fnd.chg (chg_below hk) (by simp)⟩
theorem Sc.tally {W w w' : World} {g b l n g' b' l' n' : Nat} {o : Value} {vs : List Value} {O : List (List UInt8)} (h : Sc W g b l n o vs O w) (ht : TalAt w' (W.heap.size + 1) g' b' l' n') (hk : Chg (fun x => x = W.heap.size + 1) w w') : Sc W g' b' l' n' o vs O w' :=
  ⟨Chg.below h.below hk (by have := h.size; omega) (fun x hx => by omega), Nat.le_trans h.size hk.size, h.res.chg (by have := h.size; omega) hk (by simp), ht, h.fnd.chg hk (fun x hx hq => by omega)⟩
theorem Sc.found {W w w1 : World} {g b l n : Nat} {o o' : Value} {vs : List Value} {O : List (List UInt8)} (h : Sc W g b l n o vs O w) {x : Value} {X : List UInt8} {w0 : World} (hw : W.heap.size + 2 ≤ w0.heap.size) (ho0 : ∀ g, o.ownBlock = some g → g < w0.heap.size) (hx : Own 5 w w0.heap.size x X)
    (ho : OwnV 22 w1 (W.heap.size + 2) o' (vs ++ [x])) (hg : w.grownBy w1 o.ownBlock) (hl : Lies w o o') : Sc W g b l n o' (vs ++ [x]) (O ++ [X]) w1 := by
  have hk := chg_grown hg
  have hq : ∀ x, some x = o.ownBlock → W.heap.size + 2 ≤ x := fun x hx => (h.fnd.out.lt x hx.symm).1
  exact ⟨Chg.below h.below hk (by have := h.size; omega) (fun x hx => by have := hq x hx; omega), Nat.le_trans h.size hk.size, h.res.chg (by have := h.size; omega) hk (fun hx => by have := hq _ hx; omega), h.tal.chg (by have := h.size; omega) hk (fun hx => by have := hq _ hx; omega), h.fnd.more hw ho0 hx ho hg hl⟩
/-- where the outer loop stands: at a flag, or at the end -/
def AtI (l : List UInt8) (i : Nat) (O : List (List UInt8)) (g b lo n : Nat) : Prop :=
  (i < l.length → nth8 l i = 126 ∧ ∃ T, run St0 (l.take (i + 1)) = (T, O) ∧ DefM.Clean T ∧ T.good = g ∧ T.bad = b ∧ T.long = lo ∧ T.noise = n) ∧
  (i = l.length → (run St0 l).2 = O ∧ (run St0 l).1.good = g ∧ (run St0 l).1.bad = b ∧ (run St0 l).1.long = lo ∧ (run St0 l).1.noise = n)
theorem at_flag {l : List UInt8} {i : Nat} {O : List (List UInt8)} {g b lo n : Nat} (hi : i < l.length) (hf : nth8 l i = 126) {T : St} (hr : run St0 (l.take (i + 1)) = (T, O)) (hc : DefM.Clean T) (h1 : T.good = g) (h2 : T.bad = b) (h3 : T.long = lo) (h4 : T.noise = n) : AtI l i O g b lo n :=
  ⟨fun _ => ⟨hf, T, hr, hc, h1, h2, h3, h4⟩, fun h => by omega⟩
/-- the noise ahead is over -/
theorem at_first {l : List UInt8} {i : Nat} (hi : i ≤ l.length) (hn : ∀ j, j < i → nth8 l j ≠ 126) (hf : i < l.length → nth8 l i = 126) : AtI l i [] 0 0 0 i := by
  have hs := noFlag_cut hi (i := 0) (fun j _ hj => hn j hj)
  rw [List.drop_zero] at hs
  have hr := run_noise (l.take i) St0 rfl hs
  have hln : (l.take i).length = i := by simp; omega
  rw [hln] at hr
  refine ⟨fun h => ⟨hf h, ⟨1, [], 0, 0, 0, i⟩, ?_, ⟨rfl, rfl⟩, rfl, rfl, rfl, rfl⟩, fun h => ?_⟩
  · rw [take_snoc l i h, hf h, run_snoc, hr, step_in _ rfl]
    simp [St0]
  · subst h
    rw [List.take_length] at hr
    rw [hr]
    simp [St0]
/-- the next flag -/
theorem at_next {l : List UInt8} {i k : Nat} {O : List (List UInt8)} {g b lo n : Nat} (h : AtI l i O g b lo n) (hik : i < k) (hk : k < l.length) (hn : ∀ j, i + 1 ≤ j → j < k → nth8 l j ≠ 126) (hf : nth8 l k = 126) :
    (200 < ((l.take k).drop (i + 1)).length → AtI l k O g b (lo + 1) n) ∧
    ((l.take k).drop (i + 1) = [] → AtI l k O g b lo n) ∧
    ((l.take k).drop (i + 1) ≠ [] → ((l.take k).drop (i + 1)).length ≤ 200 → bodyF ((l.take k).drop (i + 1)) = none → AtI l k O g (b + 1) lo n) ∧
    (∀ x, (l.take k).drop (i + 1) ≠ [] → ((l.take k).drop (i + 1)).length ≤ 200 → bodyF ((l.take k).drop (i + 1)) = some x → AtI l k (O ++ [x]) (g + 1) b lo n) := by
  obtain ⟨_, T, hr, hc, h1, h2, h3, h4⟩ := h.1 (by omega)
  have hs := noFlag_cut (Nat.le_of_lt hk) hn
  have ht := run_to hik hk hr hf
  obtain ⟨p1, p2, p3, p4⟩ := run_part hc hs
  refine ⟨fun h => ?_, fun h => ?_, fun hne hle hb => ?_, fun x hne hle hb => ?_⟩
  · rw [p1 h, List.append_nil] at ht
    exact at_flag hk hf ht ⟨hc.1, hc.2⟩ h1 h2 (by simp only; omega) h4
  · rw [p2 h, List.append_nil] at ht
    exact at_flag hk hf ht hc h1 h2 h3 h4
  · rw [p3 hne hle hb, List.append_nil] at ht
    exact at_flag hk hf ht ⟨hc.1, hc.2⟩ h1 (by simp only; omega) h3 h4
  · rw [p4 x hne hle hb] at ht
    exact at_flag hk hf ht ⟨hc.1, hc.2⟩ (by simp only; omega) h2 h3 h4
theorem at_end {l : List UInt8} {i : Nat} {O : List (List UInt8)} {g b lo n : Nat} (h : AtI l i O g b lo n) (hi : i < l.length) (hn : ∀ j, i + 1 ≤ j → j < l.length → nth8 l j ≠ 126) :
    (run St0 l).2 = O ∧ (run St0 l).1.good = g ∧ (run St0 l).1.bad = b ∧ (run St0 l).1.long = lo ∧ (run St0 l).1.noise = n := by
  obtain ⟨_, T, hr, hc, h1, h2, h3, h4⟩ := h.1 hi
  obtain ⟨e1, e2, e3, e4, e5⟩ := run_end hr hc hn
  exact ⟨e1, by omega, by omega, by omega, by omega⟩
end Go.Proofs.Ytfieinajkkcelaa.Def
