
/- Layer 5 (deframe): bytes fed in pieces: what stands between two pieces. -/
import Derived.Test.YtfieinajkkcelaaDefC
namespace Go.Proofs.Ytfieinajkkcelaa.Def
open Go.RowKit Go.Proofs.Ytfieinajkkcelaa.Mem Go.Proofs.Ytfieinajkkcelaa.Oct Go.Proofs.Ytfieinajkkcelaa.Pkt Go.Proofs.Ytfieinajkkcelaa.DefM Go.Proofs.Ytfieinajkkcelaa.FrmM

/-- neither the scanner's block, nor its stretch's, nor the list's -/
def Pt (s : Nat) (v ol : Value) (g : Nat) : Prop := g ≠ s ∧ v.ownBlock ≠ some g ∧ ol.ownBlock ≠ some g
/-- texts in blocks that p allows -/
def TextsP (p : Nat → Prop) (w : World) (A : Option Addr) (ls : List (List UInt8)) : Prop :=
  0 < ls.length → ∃ b off, A = some ⟨b, off, none⟩ ∧ b < w.heap.size ∧ p b ∧ ∀ i, i < ls.length → ∃ Ai ci, w.cell? ⟨b, off + i, none⟩ = some (.slice Ai (nthT ls i).length ci) ∧ (nthT ls i).length ≤ ci ∧ ci ≤ maxLen ∧ RestAt p w Ai (nthT ls i)
theorem RestAt.step {p q r : Nat → Prop} {w w' : World} {A : Option Addr} {l : List UInt8} (h : RestAt p w A l) (hk : Chg q w w') (hq : ∀ g, g < w.heap.size → p g → ¬ q g) (hr : ∀ g, g < w.heap.size → p g → r g) : RestAt r w' A l := by
  intro hl
  obtain ⟨b, off, h1, h2, hp, h3⟩ := h hl
  exact ⟨b, off, h1, Nat.lt_of_lt_of_le h2 hk.size, hr b h2 hp, fun i hi => (hk.cell (p := ⟨b, off + i, none⟩) h2 (hq b h2 hp)).trans (h3 i hi)⟩
theorem TextsP.step {p q r : Nat → Prop} {w w' : World} {A : Option Addr} {ls : List (List UInt8)} (h : TextsP p w A ls) (hk : Chg q w w') (hq : ∀ g, g < w.heap.size → p g → ¬ q g) (hr : ∀ g, g < w.heap.size → p g → r g) : TextsP r w' A ls := by
  intro hl
  obtain ⟨b, off, h1, h2, hp, h3⟩ := h hl
  refine ⟨b, off, h1, Nat.lt_of_lt_of_le h2 hk.size, hr b h2 hp, fun i hi => ?_⟩
  obtain ⟨Ai, ci, e1, e2, e3, e4⟩ := h3 i hi
  exact ⟨Ai, ci, (hk.cell (p := ⟨b, off + i, none⟩) h2 (hq b h2 hp)).trans e1, e2, e3, e4.step hk hq hr⟩
theorem TextsP.texts {p : Nat → Prop} {w : World} {A : Option Addr} {ls : List (List UInt8)} (h : TextsP p w A ls) : Texts w w.heap.size A ls := by
  intro hl
  obtain ⟨b, off, h1, h2, hp, h3⟩ := h hl
  refine ⟨b, off, h1, h2, fun i hi => ?_⟩
  obtain ⟨Ai, ci, e1, e2, e3, e4⟩ := h3 i hi
  exact ⟨Ai, ci, e1, e2, e3, e4.bytes⟩
/-- rows of finds, as texts -/
theorem textsP_row {p : Nat → Prop} {B : Nat} {w : World} {o : Value} {vs : List Value} {O : List (List UInt8)} (h : OwnV 22 w B o vs) (hl : vs.length = O.length) (ht : ∀ i, i < vs.length → ∃ u, vs[i]? = some u ∧ TextP p w u (nthT O i)) (hp : ∀ g, o.ownBlock = some g → p g) :
    ∃ A c, o = .slice A O.length c ∧ O.length ≤ c ∧ c ≤ maxLen ∧ TextsP p w A O := by
  rcases h.2 with ⟨rfl, h0⟩ | ⟨g, cap, cur, rfl, hbg, hg, hn, hm, hcs, htk⟩
  · rw [hl] at h0
    exact ⟨none, 0, by rw [h0], by omega, Nat.zero_le _, fun hp => by omega⟩
  · refine ⟨some ⟨g, 0, none⟩, cap, by rw [hl], by omega, hm, fun _ => ⟨g, 0, rfl, (Array.getElem?_eq_some_iff.1 hg).1, hp g rfl, fun i hi => ?_⟩⟩
    obtain ⟨u, h1, A, c, rfl, h2, h3, h4⟩ := ht i (by omega)
    refine ⟨A, c, ?_, h2, h3, h4⟩
    rw [cell_of_row w g _ cur _ (0, 0) hg, ← h1, ← htk, List.getElem?_take, if_pos (by omega)]
    simp
theorem RestAt.drop {p : Nat → Prop} {w : World} {A : Option Addr} {l : List UInt8} (h : RestAt p w A l) {k : Nat} (hk : k ≤ l.length) : RestAt p w (A.map (fun x => x.add k)) (l.drop k) := by
  intro hp
  simp only [List.length_drop] at hp
  obtain ⟨b, off, rfl, hb, hpb, hcell⟩ := h (by omega)
  refine ⟨b, off + k, by simp [Addr.add_lit], hb, hpb, fun i hi => ?_⟩
  simp only [List.length_drop] at hi
  rw [Nat.add_assoc, hcell (k + i) (by omega), byteAt_drop]
theorem RestAt.take {p : Nat → Prop} {w : World} {A : Option Addr} {l : List UInt8} (h : RestAt p w A l) {k : Nat} (hk : k ≤ l.length) : RestAt p w A (l.take k) := by
  intro hp
  simp only [List.length_take] at hp
  obtain ⟨b, off, rfl, hb, hpb, hcell⟩ := h (by omega)
  refine ⟨b, off, rfl, hb, hpb, fun i hi => ?_⟩
  simp only [List.length_take] at hi
  rw [hcell i (by omega), byteAt_take _ _ _ (by omega)]

/-- what stands between two pieces -/
structure PL (W : World) (s tb u : Nat) (vw : Value) (Sw : St) (Aal : Option Addr) (Oal : List (List UInt8)) (b : List UInt8) (p : Nat) (v ol : Value) (S : St) (O : List (List UInt8)) (xs : List Value) (Ar : Option Addr) (wr : World) : Prop where
  below : Below W.heap.size W wr
  hs : s < wr.heap.size
  hsW : W.heap.size ≤ s
  scan : ScanAt wr s tb v S
  own : Own 5 wr 0 v S.stretch
  vge : ∀ g, v.ownBlock = some g → W.heap.size ≤ g
  vs_ : v.ownBlock ≠ some s
  row : OwnV 22 wr W.heap.size ol xs
  len : xs.length = O.length
  rs : ol.ownBlock ≠ some s
  rv : ∀ g, ol.ownBlock = some g → v.ownBlock ≠ some g
  txt : ∀ i, i < xs.length → ∃ e, xs[i]? = some e ∧ TextP (Pt s v ol) wr e (nthT O i)
  hp : p ≤ b.length
  rest : RestAt (Pt s v ol) wr Ar (b.drop p)
  tbl : tb < wr.heap.size
  ptb : Pt s v ol tb
  ul : u < wr.heap.size
  ptu : Pt s v ol u
  tab : Crc.Tab wr tb
  oth : ScanAt wr u tb vw Sw
  all : TextsP (Pt s v ol) wr Aal Oal
  ok : Ok S
  run : DefM.run St0 (b.take p) = (S, O)

theorem PL.env {W : World} {s tb u : Nat} {vw : Value} {Sw : St} {Aal : Option Addr} {Oal : List (List UInt8)} {b : List UInt8} {p : Nat} {v ol : Value} {S : St} {O : List (List UInt8)} {xs : List Value} {Ar : Option Addr} {wr : World} (h : PL W s tb u vw Sw Aal Oal b p v ol S O xs Ar wr) : Env s tb wr v :=
  ⟨h.hs, h.tbl, h.ptb.1, h.vs_, h.ptb.2.1, h.tab⟩
theorem getElem_append_nth {xs vs : List Value} {O O2 : List (List UInt8)} (h : xs.length = O.length) (i : Nat) :
    (i < xs.length → (xs ++ vs)[i]? = xs[i]? ∧ nthT (O ++ O2) i = nthT O i) ∧ (xs.length ≤ i → (xs ++ vs)[i]? = vs[i - xs.length]? ∧ nthT (O ++ O2) i = nthT O2 (i - xs.length)) := by
  unfold nthT
  refine ⟨fun hi => ⟨List.getElem?_append_left hi, ?_⟩, fun hi => ⟨List.getElem?_append_right hi, ?_⟩⟩
  · simp only [List.getD]
    rw [List.getElem?_append_left (by omega)]
  · simp only [List.getD]
    rw [List.getElem?_append_right (by omega), ← h]
/-- a piece more -/
theorem PL.step {W : World} {s tb u : Nat} {vw : Value} {Sw : St} {Aal : Option Addr} {Oal : List (List UInt8)} {b : List UInt8} {p c : Nat} {v ol : Value} {S : St} {O : List (List UInt8)} {xs : List Value} {Ar : Option Addr} {wr : World} (h : PL W s tb u vw Sw Aal Oal b p v ol S O xs Ar wr)
    (hc : c ≤ b.length - p) {v' o : Value} {vs : List Value} {w2 w3 : World} (hI : Inv s tb wr v (DefM.run S ((b.drop p).take c)).1 (DefM.run S ((b.drop p).take c)).2 v' o vs w2) {ol' : Value}
    (hrow : OwnV 22 w3 W.heap.size ol' (xs ++ vs)) (hg : w2.grownBy w3 ol.ownBlock) (hl : Lies w2 ol ol') (Ar' : Option Addr) (hAr : c < b.length - p → Ar' = Ar.map (fun x => x.add c)) :
    PL W s tb u vw Sw Aal Oal b (p + c) v' ol' (DefM.run S ((b.drop p).take c)).1 (O ++ (DefM.run S ((b.drop p).take c)).2) (xs ++ vs) Ar' w3 := by
  have hs := h.hs
  have hWs := h.hsW
  have hz2 := hI.chg.size
  have hk2 := chg_grown hg
  have hz3 := hk2.size
  have hWw := h.below.size
  have hlt := fun g hg => (h.row.lt g hg).2
  have hvlt := fun g (hg : v'.ownBlock = some g) => (hI.own.lt g hg).2
  -- what changed
  have K : Chg (fun g => ¬ Pt s v ol g) wr w3 := (hI.chg.mono (r := fun g => ¬ Pt s v ol g) (fun g hg hp => by
    rcases hg with h1 | h1
    · exact hp.1 h1
    · exact hp.2.1 h1)).more hk2 (fun g _ hg hp => hp.2.2 hg.symm)
  have L : ∀ g, g < wr.heap.size → Pt s v ol g → Pt s v' ol' g := fun g hgl hp => by
    refine ⟨hp.1, fun hg' => ?_, fun hg' => ?_⟩
    · rcases hI.vold g hg' with h1 | h1
      · exact hp.2.1 h1
      · omega
    · rcases hl g hg' with h1 | h1
      · exact hp.2.2 h1
      · omega
  have N : ∀ g, g < wr.heap.size → Pt s v ol g → ¬ ¬ Pt s v ol g := fun g _ hp h => h hp
  have hvs' : v'.ownBlock ≠ some s := fun hg' => by
    rcases hI.vold s hg' with h1 | h1
    · exact h.vs_ h1
    · omega
  have hrun : DefM.run St0 (b.take (p + c)) = ((DefM.run S ((b.drop p).take c)).1, O ++ (DefM.run S ((b.drop p).take c)).2) := by
    rw [List.take_add, run_append, h.run]
  refine ⟨?_, by omega, hWs, hI.scan.chg (by omega) hk2 (fun h1 => h.rs h1.symm), ?_, ?_, hvs', hrow, ?_, ?_, ?_, ?_, ?_, ?_, by have := h.tbl; omega, L tb h.tbl h.ptb, by have := h.ul; omega, L u h.ul h.ptu, tab_chg h.tab K h.tbl (fun hn => hn h.ptb), h.oth.chg h.ul K (fun hn => hn h.ptu), h.all.step K N L, ok_run _ h.ok, hrun⟩
  · refine Chg.below h.below K hWw (fun g hg => Classical.byContradiction fun hlt' => hg ⟨by omega, fun h1 => ?_, fun h1 => ?_⟩)
    · have := h.vge g h1; omega
    · have := (h.row.lt g h1).1; omega
  · refine Own.chg hI.own hk2 (fun g hg1 hg2 => ?_)
    rcases hI.vold g hg1 with h1 | h1
    · exact h.rv g hg2.symm h1
    · have := hlt g hg2.symm
      omega
  · intro g hg'
    rcases hI.vold g hg' with h1 | h1
    · exact h.vge g h1
    · omega
  · have e1 := h.len
    have e2 := hI.len
    simp only [List.length_append]
    omega
  · intro hg'
    rcases hl s hg' with h1 | h1
    · exact h.rs h1
    · omega
  · intro g hg' hv
    rcases hl g hg' with h1 | h1
    · rcases hI.vold g hv with h2 | h2
      · exact h.rv g h1 h2
      · have := hlt g h1
        omega
    · have := hvlt g hv
      omega
  · intro i hi
    obtain ⟨n1, n2⟩ := getElem_append_nth (vs := vs) (O2 := (DefM.run S ((b.drop p).take c)).2) h.len i
    rcases Nat.lt_or_ge i xs.length with hi' | hi'
    · obtain ⟨e, h1, h2⟩ := h.txt i hi'
      obtain ⟨a1, a2⟩ := n1 hi'
      rw [a1, a2]
      exact ⟨e, h1, h2.chg K N L⟩
    · obtain ⟨a1, a2⟩ := n2 hi'
      rw [a1, a2]
      obtain ⟨e, h1, h2⟩ := hI.txt (i - xs.length) (by simp only [List.length_append] at hi; omega)
      refine ⟨e, h1, h2.chg hk2 (fun g hgl hp hq => by have := hlt g hq.symm; have := hp.1; omega) (fun g hgl hp => ⟨by have := hp.1; omega, hp.2.1, fun hg' => ?_⟩)⟩
      rcases hl g hg' with h3 | h3
      · have := hlt g h3
        have := hp.1
        omega
      · omega
  · have := h.hp
    omega
  · have hd : b.drop (p + c) = (b.drop p).drop c := by rw [List.drop_drop]
    rw [hd]
    rcases Nat.lt_or_ge c (b.length - p) with h1 | h1
    · rw [hAr h1]
      exact (h.rest.drop (by simp; omega)).step K N L
    · have : (b.drop p).drop c = [] := List.drop_eq_nil_of_le (by simp; omega)
      rw [this]
      intro h0
      simp at h0

/-- 'append(l, x...)', x the finds -/
theorem wpList_app_vals (w : World) {ops : Array Oper} {rest : List Oper} {o : Oper} {a : Act} {Q : Exit → Act → World → Prop} (hgd : o.guard = none) (s x : Operand)
    (ho : o.op = .call { callee := .builtin .append, args := #[s, x], argTypes := #[23, 23] })
    (base base2 : Nat) (v : Value) (xs : List Value) (hs : a.eval s = v) (hown : OwnV 22 w base v xs) (y : Value) (vs : List Value) (hx : a.eval x = y) (hy : OwnV 22 w base2 y vs) (h1 : ∀ u ∈ vs, u.oneCell' = true)
    (hb : base ≤ w.heap.size) (hlen : xs.length + vs.length ≤ 1000000)
    (h : ∀ v' w', OwnV 22 w' base v' (xs ++ vs) → w.grownBy w' v.ownBlock → Lies w v v' → wpList Try.prog ops Q rest (a.put o.dst v') w') : wpList Try.prog ops Q (o :: rest) a w := by
  obtain ⟨i, i1, i2, i3, i4⟩ := info_getS
  rcases hy.2 with ⟨rfl, h0⟩ | ⟨g, cap, cur, rfl, hbg, hg, hn, hm, hcs, htk⟩
  · have hn : vs = [] := List.eq_nil_of_length_eq_zero h0
    subst hn
    have hut : Try.prog.underlying 23 = some (.slice 22) := by kernel_rfl
    have hrun : (Builtin.append_ #[23, 23] o.type #[v, .slice none 0 0]).run Try.prog w = .ok v w := by
      rcases hown.2 with ⟨rfl, _⟩ | ⟨g, cap, cur, rfl, _, _, hnc, _⟩
      · simp [Builtin.append_, run_underlying hut, sizeOf, typeInfo, i1, Builtin.lenOf, Builtin.firstCells]
      · simp [Builtin.append_, run_underlying hut, sizeOf, typeInfo, i1, Builtin.lenOf, Builtin.firstCells, hnc, storeCells]
    refine wpList_plain hgd fun K hK => ?_
    unfold Oper.wp execOp
    simp only [ho, resolve, invoke, builtin, Sem.run_bind, Sem.run_pure, Result.andThen_ok, List.map_toArray, List.map_cons, List.map_nil, hs, hx, hrun]
    exact hK _ _ (h v w (by simpa using hown) (World.grownBy.refl w _) (fun g hg => .inl hg))
  · refine wpList_append_own_at w hgd s x 23 ho base 22 i _ 1 24 (by kernel_rfl) i1 i2 i3 i4 rfl (by decide) v xs.length xs hs hown
      ⟨g, 0, none⟩ vs.length cap vs hx (by simp) ?_ h1 (by unfold maxLen; omega) (by omega) hb ?_
    · intro j u hu
      exact World.ownsRow.cells hy (g := g) rfl j u hu
    · intro v' w' ho' hg' _ hat
      refine h v' w' (by unfold OwnV; rw [List.length_append]; exact ho') hg' (fun k hk => ?_)
      rcases hat with h2 | h2
      · exact .inl (h2 ▸ hk)
      · right
        rw [h2] at hk
        injection hk with hk
        omega
theorem one_of_txt {p : Nat → Prop} {w : World} {vs : List Value} {O : List (List UInt8)} (ht : ∀ i, i < vs.length → ∃ u, vs[i]? = some u ∧ TextP p w u (nthT O i)) : ∀ u ∈ vs, u.oneCell' = true := by
  intro u hu
  obtain ⟨i, hi, rfl⟩ := List.mem_iff_getElem.1 hu
  obtain ⟨e, h1, A, c, rfl, _⟩ := ht i hi
  rw [List.getElem?_eq_getElem hi] at h1
  injection h1 with h1
  rw [h1]
  rfl
end Go.Proofs.Ytfieinajkkcelaa.Def
