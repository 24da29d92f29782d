
/- Layer 5 (deframe): what stays true while a scanner is fed. -/
import Derived.Test.YtfieinajkkcelaaDefA
namespace Go.Proofs.Ytfieinajkkcelaa.Def
open Go.RowKit Go.Proofs.Ytfieinajkkcelaa.Mem Go.Proofs.Ytfieinajkkcelaa.Oct Go.Proofs.Ytfieinajkkcelaa.Pkt Go.Proofs.Ytfieinajkkcelaa.DefM Go.Proofs.Ytfieinajkkcelaa.FrmM

/-- the k'th of what was found -/
def elemOk (B : Nat) (w : World) (v o : Value) (vs : List Value) (O : List (List UInt8)) : Prop :=
  ∀ i, i < vs.length → ∃ u, vs[i]? = some u ∧ TextP (fun g => B ≤ g ∧ v.ownBlock ≠ some g ∧ o.ownBlock ≠ some g) w u (nthT O i)

/-- a scanner in block b, whose stretch is v; what was found is o -/
structure Inv (b tb : Nat) (W : World) (v0 : Value) (S : St) (O : List (List UInt8)) (v o : Value) (vs : List Value) (w : World) : Prop where
  chg : Chg (fun g => g = b ∨ v0.ownBlock = some g) W w
  scan : ScanAt w b tb v S
  own : Own 5 w 0 v S.stretch
  vold : ∀ g, v.ownBlock = some g → v0.ownBlock = some g ∨ W.heap.size ≤ g
  out : OwnV 22 w W.heap.size o vs
  len : vs.length = O.length
  apart : ∀ g, o.ownBlock = some g → v.ownBlock ≠ some g
  txt : elemOk W.heap.size w v o vs O

/-- what stands outside -/
structure Env (b tb : Nat) (W : World) (v0 : Value) : Prop where
  hb : b < W.heap.size
  htb : tb < W.heap.size
  hne : tb ≠ b
  hvb : v0.ownBlock ≠ some b
  hvt : v0.ownBlock ≠ some tb
  tab : Crc.Tab W tb

theorem own_nil {E : TypeId} {w : World} {base : Nat} {l : List UInt8} (h : Own E w base (.slice none 0 0) l) : l = [] := by
  rcases h.2 with ⟨_, h3⟩ | ⟨g, _, _, h3, _⟩
  · exact List.eq_nil_of_length_eq_zero h3
  · cases h3
section
variable {b tb : Nat} {W : World} {v0 : Value} {S S' : St} {O : List (List UInt8)} {v o : Value} {vs : List Value} {w w' : World}
theorem Inv.start (h : ScanAt W b tb v0 S) (ho : Own 5 W 0 v0 S.stretch) : Inv b tb W v0 S [] v0 (.slice none 0 0) [] W :=
  ⟨Chg.refl _ _, h, ho, fun _ h => .inl h, OwnV.nil _ _ _, rfl, fun _ h => by simp [Value.ownBlock] at h, fun _ h => by simp at h⟩
theorem Inv.hb (h : Inv b tb W v0 S O v o vs w) (e : Env b tb W v0) : b < w.heap.size := Nat.lt_of_lt_of_le e.hb h.chg.size
theorem Inv.vne (h : Inv b tb W v0 S O v o vs w) (e : Env b tb W v0) : v.ownBlock ≠ some b ∧ v.ownBlock ≠ some tb := by
  have hb := e.hb
  have ht := e.htb
  constructor
  · intro hv
    rcases h.vold b hv with h1 | h1
    · exact e.hvb h1
    · omega
  · intro hv
    rcases h.vold tb hv with h1 | h1
    · exact e.hvt h1
    · omega
theorem Inv.tab (h : Inv b tb W v0 S O v o vs w) (e : Env b tb W v0) : Crc.Tab w tb := tab_chg e.tab h.chg e.htb (by rintro (h1 | h1); exact e.hne h1; exact e.hvt h1)
theorem Inv.htb (h : Inv b tb W v0 S O v o vs w) (e : Env b tb W v0) : tb < w.heap.size := Nat.lt_of_lt_of_le e.htb h.chg.size
/-- a store into the scanner's own block that leaves the stretch -/
theorem Inv.set (h : Inv b tb W v0 S O v o vs w) (e : Env b tb W v0) (hs : ScanAt w' b tb v S') (hst : S'.stretch = S.stretch) (hk : Chg (fun g => g = b) w w') : Inv b tb W v0 S' O v o vs w' := by
  have hb := e.hb
  have hv := h.vne e
  refine ⟨h.chg.trans (hk.mono fun _ hg => .inl hg), hs, ?_, h.vold, OwnV.chg h.out hk (fun g hg hgb => ?_), h.len, h.apart, fun i hi => ?_⟩
  · rw [hst]
    exact Own.chg h.own hk (fun g hg hgb => hv.1 (hgb ▸ hg))
  · have := (h.out.lt g hg).1
    omega
  · obtain ⟨u, h1, h2⟩ := h.txt i hi
    exact ⟨u, h1, h2.chg hk (fun g _ hp hgb => by have := hp.1; omega) (fun _ _ hp => hp)⟩
/-- a byte more -/
theorem Inv.app (h : Inv b tb W v0 S O v o vs w) (e : Env b tb W v0) {v' : Value} {w1 : World} {c : UInt8} (ho : Own 5 w1 0 v' (S.stretch ++ [c])) (hg : w.grownBy w1 v.ownBlock) (hl : Lies w v v') :
    Inv b tb W v0 { S with stretch := S.stretch ++ [c] } O v' o vs (w1.setCell ⟨b, 2, none⟩ v') := by
  have hb := e.hb
  have hv := h.vne e
  have hbw := h.hb e
  have hk := chg_grown hg
  have hk2 := chg_set w1 ⟨b, 2, none⟩ v'
  have hs1 := (h.scan.chg hbw hk (fun h => hv.1 h.symm)).set2 v' (S.stretch ++ [c])
  have hsz := h.chg.size
  have hvb' : v'.ownBlock ≠ some b := by
    intro hg'
    rcases hl b hg' with h1 | h1
    · exact hv.1 h1
    · omega
  refine ⟨(h.chg.more hk ?_).trans (hk2.mono fun _ hg => .inl hg), hs1, Own.chg ho hk2 (fun g hg hgb => hvb' (by simp only at hgb; rw [← hgb]; exact hg)), ?_, OwnV.chg (OwnV.chg h.out hk (fun g hg1 hg2 => h.apart g hg1 hg2.symm)) hk2 (fun g hg1 hg2 => ?_), h.len, ?_, fun i hi => ?_⟩
  · intro g hgl hgr
    rcases h.vold g hgr.symm with h1 | h1
    · exact .inr h1
    · omega
  · intro g hg'
    rcases hl g hg' with h1 | h1
    · exact h.vold g h1
    · exact .inr (by omega)
  · have := (h.out.lt g hg1).1
    simp only at hg2
    omega
  · intro g hg1 hg2
    rcases hl g hg2 with h1 | h1
    · exact h.apart g hg1 h1
    · have := (h.out.lt g hg1).2
      omega
  · obtain ⟨u, h1, h2⟩ := h.txt i hi
    refine ⟨u, h1, (h2.chg hk (fun g _ hp hgr => hp.2.1 hgr.symm) (r := fun g => W.heap.size ≤ g ∧ v'.ownBlock ≠ some g ∧ o.ownBlock ≠ some g) (fun g hgl hp => ⟨hp.1, fun hg' => ?_, hp.2.2⟩)).chg hk2 (fun g _ hp hgb => by simp only at hgb; have := hp.1; omega) (fun _ _ hp => hp)⟩
    rcases hl g hg' with h3 | h3
    · exact hp.2.1 h3
    · omega
/-- the stretch is let go -/
theorem Inv.drop (h : Inv b tb W v0 S O v o vs w) (e : Env b tb W v0) (hs : ScanAt w' b tb (.slice none 0 0) S') (hst : S'.stretch = []) (hk : Chg (fun g => g = b) w w') : Inv b tb W v0 S' O (.slice none 0 0) o vs w' := by
  have hb := e.hb
  refine ⟨h.chg.trans (hk.mono fun _ hg => .inl hg), hs, by rw [hst]; exact Own.nil _ _ _, fun g hg => by simp [Value.ownBlock] at hg, OwnV.chg h.out hk (fun g hg hgb => ?_), h.len, fun g _ hg => by simp [Value.ownBlock] at hg, fun i hi => ?_⟩
  · have := (h.out.lt g hg).1
    omega
  · obtain ⟨u, h1, h2⟩ := h.txt i hi
    exact ⟨u, h1, h2.chg hk (fun g _ hp hgb => by have := hp.1; omega) (fun _ _ hp => ⟨hp.1, by simp [Value.ownBlock], hp.2.2⟩)⟩
/-- one more is found: x lies in blocks newer than w0's -/
theorem Inv.found (h : Inv b tb W v0 S O (.slice none 0 0) o vs w) {o' : Value} {w1 : World} {x : Value} {X : List UInt8} {w0 : World} (hw : W.heap.size ≤ w0.heap.size) (ho0 : ∀ g, o.ownBlock = some g → g < w0.heap.size) (hx : Own 5 w w0.heap.size x X)
    (ho : OwnV 22 w1 W.heap.size o' (vs ++ [x])) (hg : w.grownBy w1 o.ownBlock) (hl : Lies w o o') (e : Env b tb W v0) :
    Inv b tb W v0 S (O ++ [X]) (.slice none 0 0) o' (vs ++ [x]) w1 := by
  have hb := e.hb
  have hbw := h.hb e
  have hk := chg_grown hg
  have ob : o.ownBlock ≠ some b := fun hg => by have := (h.out.lt b hg).1; omega
  refine ⟨h.chg.more hk (fun g hgl hgr => by have := (h.out.lt g hgr.symm).1; omega), h.scan.chg hbw hk (fun h => ob h.symm), by rw [own_nil h.own]; exact Own.nil _ _ _, fun g hg => by simp [Value.ownBlock] at hg, ho, by simp [h.len], fun g _ hg => by simp [Value.ownBlock] at hg, fun i hi => ?_⟩
  have hsz := h.chg.size
  rcases Nat.lt_or_ge i vs.length with hi' | hi'
  · obtain ⟨u, h1, h2⟩ := h.txt i hi'
    refine ⟨u, by rw [List.getElem?_append_left hi']; exact h1, ?_⟩
    have e1 : nthT (O ++ [X]) i = nthT O i := by
      unfold nthT
      simp only [List.getD]
      rw [List.getElem?_append_left (by rw [← h.len]; exact hi')]
    rw [e1]
    refine h2.chg hk (fun g _ hp hgr => hp.2.2 hgr.symm) (fun g hgl hp => ⟨hp.1, by simp [Value.ownBlock], fun hg' => ?_⟩)
    rcases hl g hg' with h3 | h3
    · exact hp.2.2 h3
    · omega
  · have hi2 : i = vs.length := by simp at hi; omega
    subst hi2
    refine ⟨x, by simp, ?_⟩
    have e1 : nthT (O ++ [X]) vs.length = X := by unfold nthT; rw [h.len]; simp [List.getD]
    rw [e1]
    refine (TextP.own (p := fun g => w0.heap.size ≤ g) hx (fun g hg _ => hg)).chg hk (fun g hgl hp hgr => ?_) (fun g hgl hp => ⟨by omega, by simp [Value.ownBlock], fun hg' => ?_⟩)
    · have := ho0 g hgr.symm
      omega
    · rcases hl g hg' with h3 | h3
      · have := ho0 g h3
        omega
      · omega
/-- what came in stands -/
theorem Inv.input (h : Inv b tb W v0 S O v o vs w) {A : Option Addr} {l : List UInt8} (hA : RestAt (fun g => g ≠ b ∧ v0.ownBlock ≠ some g) W A l) : RestAt (fun g => g ≠ b ∧ v0.ownBlock ≠ some g) w A l :=
  hA.chg h.chg (fun g _ hp hq => by rcases hq with h1 | h1; exact hp.1 h1; exact hp.2 h1)
end
end Go.Proofs.Ytfieinajkkcelaa.Def
