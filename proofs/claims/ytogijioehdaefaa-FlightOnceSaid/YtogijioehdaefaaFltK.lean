
/- Layer 16 (flight): words for FlightOnce: the numbers that were taken, in a map of the call's own; what was put, in a list of the call's own; both beside a flight. -/
import Derived.Test.YtogijioehdaefaaFltI
import Derived.Maps.OwnSet
namespace Go.Proofs.Ytogijioehdaefaa.Flt
open Go.Proofs.Ytogijioehdaefaa.Ed

/-- what was put, in order: ps; the numbers that were taken: T; what is on its way in direction 0: of F -/
structure Once (L : Nat) (ps : List (List UInt8)) (T : List Nat) (F : Fl) : Prop where
  life : F.life = L
  sent : F.sent 0 = ps.length
  has : ∀ x ∈ F.fs 0, 1 ≤ x.num ∧ x.num ≤ ps.length ∧ x.first = ps.getD (x.num - 1) [] ∧ x.num ∉ T
  rise : Rise (F.fs 0)
  young : 0 < L → ∀ x ∈ F.fs 0, ps.length < x.num + L
  tk : ∀ t ∈ T, t ≤ ps.length
section
variable {L : Nat} {ps : List (List UInt8)} {T : List Nat} {F : Fl}
theorem once_new (L : Nat) : Once L [] [] (new L) := ⟨rfl, rfl, fun _ h => (by cases h), List.Pairwise.nil, fun _ _ h => (by cases h), fun _ h => (by cases h)⟩
theorem once_put (h : Once L ps T F) (w : List UInt8) : Once L (ps ++ [w]) T (put F 0 w) := by
  have hr : Rise (putL F 0 w) := by
    unfold putL Rise
    rw [List.pairwise_append]
    refine ⟨h.rise, by simp, fun x hx y hy => ?_⟩
    simp only [List.mem_singleton] at hy
    subst hy
    have := (h.has x hx).2.1
    have := h.sent
    show _ < F.sent 0 + 1
    omega
  have hall : ∀ x ∈ putL F 0 w, 1 ≤ x.num ∧ x.num ≤ (ps ++ [w]).length ∧ x.first = (ps ++ [w]).getD (x.num - 1) [] ∧ x.num ∉ T := fun x hx => by
    unfold putL at hx
    rw [List.mem_append] at hx
    rcases hx with hx | hx
    · obtain ⟨h1, h2, h3, h4⟩ := h.has x hx
      refine ⟨h1, by rw [List.length_append]; omega, ?_, h4⟩
      rw [h3, List.getD_eq_getElem?_getD, List.getD_eq_getElem?_getD, List.getElem?_append_left (by omega)]
    · simp only [List.mem_singleton] at hx
      subst hx
      have hs := h.sent
      refine ⟨Nat.succ_le_succ (Nat.zero_le _), by rw [List.length_append]; simp; omega, ?_, fun ht => ?_⟩
      · show w = _
        rw [List.getD_eq_getElem?_getD, List.getElem?_append_right (by simp; omega)]
        simp [hs]
      · have := h.tk _ ht
        simp only at this
        omega
  have hfs : (put F 0 w).fs 0 = (putL F 0 w).drop (cutN F (F.sent 0 + 1) (putL F 0 w)) := rfl
  refine ⟨h.life, ?_, fun x hx => ?_, ?_, fun hl x hx => ?_, fun t ht => ?_⟩
  · show F.sent 0 + 1 = _
    rw [List.length_append, h.sent]
    rfl
  · rw [hfs] at hx
    exact hall x (List.mem_of_mem_drop hx)
  · rw [hfs]
    exact List.Pairwise.sublist (List.drop_sublist _ _) hr
  · rw [hfs] at hx
    have hc : cutN F (F.sent 0 + 1) (putL F 0 w) = lead F.life (F.sent 0 + 1) (putL F 0 w) := by
      unfold cutN
      rw [if_neg (by rw [h.life]; omega)]
    rw [hc, ← (filter_old _ _ _ hr).1] at hx
    have h1 := (List.mem_filter.1 hx).2
    unfold old at h1
    rw [h.life, h.sent] at h1
    rw [List.length_append]
    have : ¬ ((L : Int) ≤ ((ps.length + 1 : Nat) : Int) - (x.num : Int)) := by simpa using h1
    show ps.length + 1 < _
    omega
  · have := h.tk t ht
    rw [List.length_append]
    omega
theorem once_fs (h : Once L ps T F) (l : List Frm) (T' : List Nat) (hs : ∀ x ∈ l, ∃ y ∈ F.fs 0, x.num = y.num ∧ x.first = y.first ∧ x.num ∉ T') (hr : Rise l) (ht : ∀ t ∈ T', t ≤ ps.length) : Once L ps T' { F with fs := upd F.fs 0 l } := by
  refine ⟨h.life, h.sent, fun x hx => ?_, hr, fun hl x hx => ?_, ht⟩
  · obtain ⟨y, hy, e1, e2, e3⟩ := hs x hx
    obtain ⟨h1, h2, h3, _⟩ := h.has y hy
    exact ⟨by omega, by omega, by rw [e2, h3, e1], e3⟩
  · obtain ⟨y, hy, e1, _⟩ := hs x hx
    have := h.young hl y hy
    omega
theorem once_take (h : Once L ps T F) {i : Nat} (hi : i < (F.fs 0).length) : Once L ps (T ++ [(nthF (F.fs 0) i).num]) (take F 0 i) := by
  have hmem : nthF (F.fs 0) i ∈ F.fs 0 := nthF_mem hi
  have he : (F.fs 0).take i ++ (F.fs 0).drop (i + 1) = (F.fs 0).eraseIdx i := (List.eraseIdx_eq_take_drop_succ _ _).symm
  refine once_fs h _ _ (fun x hx => ?_) ?_ (fun t ht => ?_)
  · have hx2 : x ∈ F.fs 0 := by rw [he] at hx; exact (List.eraseIdx_sublist _ _).subset hx
    refine ⟨x, hx2, rfl, rfl, fun ht => ?_⟩
    rw [List.mem_append, List.mem_singleton] at ht
    rcases ht with ht | ht
    · exact (h.has x hx2).2.2.2 ht
    · have hrise := h.rise
      unfold Rise at hrise
      rw [← List.take_append_drop i (F.fs 0), List.drop_eq_getElem_cons hi] at hrise
      have hn : nthF (F.fs 0) i = (F.fs 0)[i] := by
        unfold nthF
        rw [List.getD_eq_getElem?_getD, List.getElem?_eq_getElem hi]
        rfl
      rw [hn] at ht
      obtain ⟨_, p2, p3⟩ := List.pairwise_append.1 hrise
      rcases List.mem_append.1 hx with hx | hx
      · have := p3 x hx _ (List.mem_cons_self)
        omega
      · have := (List.pairwise_cons.1 p2).1 x hx
        omega
  · show Rise _
    rw [he]
    exact List.Pairwise.sublist (List.eraseIdx_sublist _ _) h.rise
  · rw [List.mem_append, List.mem_singleton] at ht
    rcases ht with ht | rfl
    · exact h.tk t ht
    · exact (h.has _ hmem).2.1
theorem once_spoil (h : Once L ps T F) {i : Nat} (hi : i < (F.fs 0).length) (es : List Edt) : Once L ps T (spoil F 0 i es) := by
  have hset : ∀ x ∈ (F.fs 0).set i { nthF (F.fs 0) i with wire := do1 (nthF (F.fs 0) i).wire es }, ∃ y ∈ F.fs 0, x.num = y.num ∧ x.first = y.first ∧ x.num ∉ T := fun x hx => by
    rcases List.mem_or_eq_of_mem_set hx with hx | rfl
    · exact ⟨x, hx, rfl, rfl, (h.has x hx).2.2.2⟩
    · exact ⟨nthF (F.fs 0) i, nthF_mem hi, rfl, rfl, (h.has _ (nthF_mem hi)).2.2.2⟩
  refine once_fs h _ T hset ?_ h.tk
  unfold Rise
  have hmap : ((F.fs 0).set i { nthF (F.fs 0) i with wire := do1 (nthF (F.fs 0) i).wire es }).map (·.num) = (F.fs 0).map (·.num) := by
    refine List.ext_getElem? fun j => ?_
    rw [List.getElem?_map, List.getElem?_map, List.getElem?_set]
    split
    · rename_i e
      subst e
      rw [List.getElem?_eq_getElem hi]
      unfold nthF
      rw [List.getD_eq_getElem?_getD, List.getElem?_eq_getElem hi]
      rfl
    · rfl
  have h2 : ((F.fs 0).map (·.num)).Pairwise (· < ·) := by rw [List.pairwise_map]; exact h.rise
  rw [← hmap, List.pairwise_map] at h2
  exact h2
/-- numbers that rise between a and b are b - a at most -/
theorem rise_len : ∀ (l : List Frm) (a b : Nat), Rise l → (∀ x ∈ l, a < x.num ∧ x.num ≤ b) → l.length ≤ b - a
  | [], _, _, _, _ => Nat.zero_le _
  | x :: r, a, b, hr, h => by
    obtain ⟨h1, h2⟩ := List.pairwise_cons.1 hr
    have hx := h x List.mem_cons_self
    have := rise_len r x.num b h2 (fun y hy => ⟨h1 y hy, (h y (List.mem_cons_of_mem _ hy)).2⟩)
    rw [List.length_cons]
    omega
theorem once_len (h : Once L ps T F) (hl : 0 < L) : (F.fs 0).length ≤ L := by
  have := rise_len (F.fs 0) (ps.length - L) ps.length h.rise (fun x hx => by
    have h1 := h.has x hx
    have h2 := h.young hl x hx
    omega)
  omega
end
end Go.Proofs.Ytogijioehdaefaa.Flt
namespace Go.Proofs.Ytogijioehdaefaa.Flt
open Go.RowKit Go.Proofs.Ytogijioehdaefaa.Mem Go.Proofs.Ytogijioehdaefaa.Oct Go.Proofs.Ytogijioehdaefaa.Pkt Go.Proofs.Ytogijioehdaefaa.Def Go.Proofs.Ytogijioehdaefaa.Ed

/-! ### a set of numbers as a map[int]bool -/
def keyN (k : Nat) : Lit := .int .i64 k
def tset (T : List Nat) : DataW Unit := Maps.setOf (.lit (.bool true)) (T.map keyN)
/-- block b is a map[int]bool that tells just the numbers T -/
def Taken (w : World) (b : Nat) (T : List Nat) : Prop := w.ownsMap Try.prog 3 (plainElem Try.prog 4) b T.length (tset T)
theorem lawI : Maps.Keyed Try.prog 3 := Maps.int_keyed (q := .i64) (by kernel_rfl)
theorem undM : Try.prog.underlying 51 = some (.map 3 4) := by kernel_rfl
theorem undB : Try.prog.underlying 4 = some .bool := by kernel_rfl
theorem zeroB (w : World) : (zeroValue 4).run Try.prog w = .ok (.bool false) w := by kernel_rfl
theorem keyN_of {k : Nat} (hk : k ≤ 1000000) : keyOf Try.prog 3 (.int .i64 (k : Int)) = some (keyN k) := Maps.keyOf_int_mk (q := .i64) (by kernel_rfl) (WalkArith.wf_i64 (by omega))
theorem keyN_inj {a b : Nat} (h : keyN a = keyN b) : a = b := by
  unfold keyN at h
  simp only [Lit.int.injEq, true_and] at h
  omega
section
variable {w w' : World} {b : Nat} {T : List Nat}
theorem Taken.made (w : World) : Taken (w.alloc (.map #[] 0)) w.heap.size [] := World.ownsMap_made _ _ _ _
theorem Taken.lt (h : Taken w b T) : b < w.heap.size := World.ownsMap.lt h
theorem Taken.chg {q : Nat → Prop} (h : Taken w b T) (hk : Chg q w w') (hq : ¬ q b) : Taken w' b T := by
  have hlt := h.lt
  obtain ⟨es, clock, hb, F, hs, hD⟩ := h
  exact ⟨es, clock, (hk.block b hlt hq).trans hb, F, hs, hD⟩
theorem tset_no {k : Nat} (h : k ∉ T) : Maps.has (tset T) (keyN k) = false := by
  have hany : (T.map keyN).any (fun x => x.sameKey (keyN k)) = false := by
    rw [List.any_eq_false]
    intro x hx
    obtain ⟨t, ht, rfl⟩ := List.mem_map.1 hx
    rw [Maps.sameKey_ne (fun e => h (by have := keyN_inj e; subst this; exact ht))]
    decide
  unfold tset
  rw [Maps.has_setOf _ _ _ (fun x hx => by obtain ⟨t, _, rfl⟩ := List.mem_map.1 hx; trivial), hany]
/-- a number that was not taken is not told -/
theorem Taken.look (h : Taken w b T) {k : Nat} (hk : k ∉ T) (hk1 : k ≤ 1000000) : (Instr.lookup 51 (.map (some b)) (.int .i64 (k : Int)) false).run Try.prog w = .ok (.bool false) w := by
  obtain ⟨v, ps, hrun, hv⟩ := World.ownsMap.lookup h lawI undM (zeroB w) (plainElem_bool undB false) (keyN_of hk1)
  rw [Maps.atKey_of_not_has (tset_no hk)] at hv
  have e : v = .bool false := by
    unfold plainElem at hv
    rw [undB] at hv
    cases v <;> simp at hv
    rw [hv.1]
  rw [e] at hrun
  exact hrun
theorem tset_snoc (T : List Nat) (k : Nat) : tset (T ++ [k]) = (tset T).put (keyN k) (.lit (.bool true)) := by
  unfold tset
  rw [List.map_append, List.map_cons, List.map_nil, Maps.setOf_snoc]
/-- 'taken[k] = true' -/
theorem wpList_taken (w : World) {ops : Array Oper} {rest : List Oper} {o : Oper} {a : Act} {Q : Exit → Act → World → Prop} (hgd : o.guard = none) (m x v : Operand) (hop : o.op = Op.mapUpdate 51 m x v)
    (b k : Nat) (T : List Nat) (hm : a.eval m = .map (some b)) (h : Taken w b T) (hT : T.length ≤ 1000000) (hx : a.eval x = .int .i64 (k : Int)) (hk : k ≤ 1000000) (hv : a.eval v = .bool true)
    (hK : ∀ w', Taken w' b (T ++ [k]) → Chg (fun g => g = b) w w' → wpList Try.prog ops Q rest (a.put o.dst undef) w') : wpList Try.prog ops Q (o :: rest) a w := by
  refine wpList_mapUpdate_own (H := Unit) w hgd m x v 51 hop 3 4 lawI undM _ b T.length (tset T) hm h (by unfold maxLen; omega) _ _ (keyN k) hx hv (keyN_of hk) (.lit (.bool true)) [] (plainElem_bool undB true) ?_
  intro w' h1 h2
  refine hK w' ?_ ⟨h2.os, h2.tape, h2.output, h2.size, fun i hi hn => h2.block i hi (fun e => hn (by injection e))⟩
  unfold Taken
  rw [tset_snoc, List.length_append]
  exact h1
end
/-! ### a list of texts of the call's own -/
/-- the list that pv is: the texts ps, each in blocks that p allows -/
def PutAt (p : Nat → Prop) (w : World) (base : Nat) (pv : Value) (ps : List (List UInt8)) : Prop :=
  ∃ xs, OwnV 33 w base pv xs ∧ xs.length = ps.length ∧ ∀ j, j < ps.length → ∃ u, xs[j]? = some u ∧ TextP p w u (ps.getD j [])
section
variable {p q r : Nat → Prop} {w w' : World} {base : Nat} {pv : Value} {ps : List (List UInt8)}
theorem PutAt.nil (p : Nat → Prop) (w : World) (base : Nat) : PutAt p w base (.slice none 0 0) [] := ⟨[], OwnV.nil _ _ _, rfl, fun _ h => absurd h (Nat.not_lt_zero _)⟩
theorem PutAt.chg (h : PutAt p w base pv ps) (hk : Chg q w w') (hv : ∀ g, pv.ownBlock = some g → ¬ q g) (hq : ∀ g, g < w.heap.size → p g → ¬ q g) (hr : ∀ g, g < w.heap.size → p g → r g) : PutAt r w' base pv ps := by
  obtain ⟨xs, h1, h2, h3⟩ := h
  refine ⟨xs, OwnV.chg h1 hk hv, h2, fun j hj => ?_⟩
  obtain ⟨u, h4, h5⟩ := h3 j hj
  exact ⟨u, h4, h5.chg hk hq hr⟩
theorem PutAt.lt (h : PutAt p w base pv ps) : ∀ g, pv.ownBlock = some g → base ≤ g ∧ g < w.heap.size := by
  obtain ⟨xs, h1, _⟩ := h
  exact OwnV.lt h1
/-- what stands at place j -/
theorem PutAt.at_ (h : PutAt p w base pv ps) {j : Nat} (hj : j < ps.length) : ∃ g cap A n c, pv = .slice (some ⟨g, 0, none⟩) ps.length cap ∧ w.cell? ⟨g, j, none⟩ = some (.slice A n c) ∧ g < w.heap.size ∧ pv.ownBlock = some g ∧ n = (ps.getD j []).length ∧ RestAt p w A (ps.getD j []) ∧ n ≤ maxLen := by
  obtain ⟨xs, h1, h2, h3⟩ := h
  obtain ⟨A, cap, rfl, _, _, _⟩ := OwnV.shape h1
  obtain ⟨g, rfl, _, h4, h5, _⟩ := OwnV.at_ h1 (by omega : j < xs.length)
  obtain ⟨u, h6, A2, c2, rfl, h7, h8, h9⟩ := h3 j hj
  exact ⟨g, cap, A2, _, c2, by rw [h2], h5.trans h6, h4, rfl, rfl, h9, Nat.le_trans h7 h8⟩
theorem PutAt.shape (h : PutAt p w base pv ps) : ∃ A cap, pv = .slice A ps.length cap := by
  obtain ⟨xs, h1, h2, _⟩ := h
  obtain ⟨A, cap, rfl, _⟩ := OwnV.shape h1
  exact ⟨A, cap, by rw [h2]⟩
end

/-! ### the three beside one another -/
/-- what stands in memory between two steps: the flight, the list, the map, none in another's memory; the blocks that S names are as they were in w0 -/
structure On (S : Nat → Prop) (w0 W w : World) (fb mb : Nat) (pv : Value) (ps : List (List UInt8)) (T : List Nat) (F : Fl) (wv : Nat → Value) : Prop where
  f : FlAt 1 (fun g => g ≠ mb ∧ pv.ownBlock ≠ some g) w fb F wv
  put : PutAt (fun g => ¬ Mut fb wv g ∧ g ≠ mb ∧ pv.ownBlock ≠ some g) w W.heap.size pv ps
  tak : Taken w mb T
  dm : ¬ Mut fb wv mb
  dp : ∀ g, pv.ownBlock = some g → ¬ Mut fb wv g ∧ g ≠ mb
  newf : ∀ g, Mut fb wv g → W.heap.size ≤ g
  newm : W.heap.size ≤ mb
  keep : ∀ g, S g → g < w.heap.size ∧ ¬ Mut fb wv g ∧ g ≠ mb ∧ pv.ownBlock ≠ some g ∧ w.heap[g]? = w0.heap[g]?
  below : Below W.heap.size W w
section
variable {S : Nat → Prop} {w0 W w w' : World} {fb mb : Nat} {pv pv' : Value} {ps : List (List UInt8)} {T : List Nat} {F F' : Fl} {wv wv' : Nat → Value}
theorem On.hR (h : On S w0 W w fb mb pv ps T F wv) : ∀ g, w.heap.size ≤ g → g ≠ mb ∧ pv.ownBlock ≠ some g := fun g hg => ⟨fun e => by have := h.tak.lt; omega, fun e => by have := (h.put.lt g e).2; omega⟩
theorem On.new (h : On S w0 W w fb mb pv ps T F wv) : ∀ g, w.heap.size ≤ g → ¬ Mut fb wv g ∧ g ≠ mb ∧ pv.ownBlock ≠ some g := fun g hg => ⟨fun hm => by have := h.f.lt g hm; omega, h.hR g hg⟩
theorem On.below' (h : On S w0 W w fb mb pv ps T F wv) (hb : Below w.heap.size w w') : On S w0 W w' fb mb pv ps T F wv :=
  ⟨h.f.below hb, h.put.chg (chg_below hb) (fun _ _ h => h) (fun _ _ _ h => h) (fun _ _ hp => hp), h.tak.chg (chg_below hb) (fun h => h), h.dm, h.dp, h.newf, h.newm,
    fun g hg => by obtain ⟨h1, h2, h3, h4, h5⟩ := h.keep g hg; exact ⟨Nat.lt_of_lt_of_le h1 hb.size, h2, h3, h4, (hb.block g h1).trans h5⟩, below_next h.below hb⟩
theorem On.drawn (h : On S w0 W w fb mb pv ps T F wv) (hd : Drawn w w') : On S w0 W w' fb mb pv ps T F wv := h.below' (hd.below _)
/-- a block that is new is kept from here on -/
theorem On.seal (h : On S w0 W w fb mb pv ps T F wv) (hb : Below w.heap.size w w') (hs : w.heap.size < w'.heap.size) : On (fun g => g = w.heap.size) w' W w' fb mb pv ps T F wv :=
  have h' := h.below' hb
  ⟨h'.f, h'.put, h'.tak, h'.dm, h'.dp, h'.newf, h'.newm, fun g hg => by subst hg; obtain ⟨h1, h2, h3⟩ := h.new _ (Nat.le_refl _); exact ⟨hs, h1, h2, h3, rfl⟩, h'.below⟩
theorem On.seal2 {b : Nat} (h : On (fun g => g = b) w0 W w fb mb pv ps T F wv) (hb : Below w.heap.size w w') (hs : w.heap.size < w'.heap.size) : On (fun g => g = b ∨ g = w.heap.size) w' W w' fb mb pv ps T F wv :=
  have h' := h.below' hb
  ⟨h'.f, h'.put, h'.tak, h'.dm, h'.dp, h'.newf, h'.newm, fun g hg => by
    rcases hg with rfl | rfl
    · obtain ⟨h1, h2, h3, h4, _⟩ := h'.keep _ rfl
      exact ⟨h1, h2, h3, h4, rfl⟩
    · obtain ⟨h1, h2, h3⟩ := h.new _ (Nat.le_refl _)
      exact ⟨hs, h1, h2, h3, rfl⟩, h'.below⟩
theorem On.free (h : On S w0 W w fb mb pv ps T F wv) : On (fun _ => False) W W w fb mb pv ps T F wv := ⟨h.f, h.put, h.tak, h.dm, h.dp, h.newf, h.newm, fun _ hg => hg.elim, h.below⟩
theorem On.cell (h : On S w0 W w fb mb pv ps T F wv) {p : Addr} (hp : S p.block) : w.cell? p = w0.cell? p := by
  obtain ⟨_, _, _, _, h5⟩ := h.keep _ hp
  exact World.cell?_of_block h5
/-- an act -/
theorem On.act (h : On S w0 W w fb mb pv ps T F wv) (ha : Acted 1 (fun g => g ≠ mb ∧ pv.ownBlock ≠ some g) w fb wv F' w') : ∃ wv', On S w0 W w' fb mb pv ps T F' wv' := by
  obtain ⟨wv', h1, h2, h3⟩ := ha
  have hs := h.below.size
  refine ⟨wv', h1, h.put.chg h2 (fun g hg => (h.dp g hg).1) (fun g _ hp => hp.1) (fun g hg hp => ⟨fun hm => ?_, hp.2⟩), h.tak.chg h2 h.dm, fun hm => ?_, fun g hg => ⟨fun hm => ?_, (h.dp g hg).2⟩, fun g hm => ?_, h.newm,
    fun g hg => ?_, Chg.below h.below h2 hs h.newf⟩
  · rcases h3 g hm with h4 | h4
    · exact hp.1 h4
    · omega
  · rcases h3 _ hm with h4 | h4
    · exact h.dm h4
    · have := h.tak.lt
      omega
  · rcases h3 _ hm with h4 | h4
    · exact (h.dp g hg).1 h4
    · have := (h.put.lt g hg).2
      omega
  · rcases h3 _ hm with h4 | h4
    · exact h.newf g h4
    · omega
  · obtain ⟨k1, k2, k3, k4, k5⟩ := h.keep g hg
    refine ⟨Nat.lt_of_lt_of_le k1 h2.size, fun hm => ?_, k3, k4, (h2.block g k1 k2).trans k5⟩
    rcases h3 _ hm with h4 | h4
    · exact k2 h4
    · omega
/-- a number is taken -/
theorem On.store {T' : List Nat} (h : On S w0 W w fb mb pv ps T F wv) (ht : Taken w' mb T') (hk : Chg (fun g => g = mb) w w') : On S w0 W w' fb mb pv ps T' F wv :=
  ⟨h.f.chg hk (fun g hg e => h.dm (e ▸ hg)) (fun g _ _ hR => ⟨hR.1, hR⟩), h.put.chg hk (fun g hg => (h.dp g hg).2) (fun g _ hp => hp.2.1) (fun _ _ hp => hp), ht, h.dm, h.dp, h.newf, h.newm,
    fun g hg => by obtain ⟨h1, h2, h3, h4, h5⟩ := h.keep g hg; exact ⟨Nat.lt_of_lt_of_le h1 hk.size, h2, h3, h4, (hk.block g h1 h3).trans h5⟩, Chg.below h.below hk h.below.size (fun g e => by rw [e]; exact h.newm)⟩
/-- a text is put -/
theorem On.push {xs : List Value} {u : Value} {l : List UInt8} (h : On S w0 W w fb mb pv ps T F wv) (hx : xs.length = ps.length) (ht : ∀ j, j < ps.length → ∃ v, xs[j]? = some v ∧ TextP (fun g => ¬ Mut fb wv g ∧ g ≠ mb ∧ pv.ownBlock ≠ some g) w v (ps.getD j []))
    (hu : TextP (fun g => ¬ Mut fb wv g ∧ g ≠ mb ∧ pv.ownBlock ≠ some g) w u l) (ho : OwnV 33 w' W.heap.size pv' (xs ++ [u])) (hg : w.grownBy w' pv.ownBlock) (hl : Lies w pv pv') : On S w0 W w' fb mb pv' (ps ++ [l]) T F wv := by
  have hk := chg_grown hg
  have hout : ∀ g, g < w.heap.size → pv.ownBlock ≠ some g → pv'.ownBlock ≠ some g := fun g hlt hne e => by
    rcases hl g e with h1 | h1
    · exact hne h1
    · omega
  have htx : ∀ {v : Value} {m : List UInt8}, TextP (fun g => ¬ Mut fb wv g ∧ g ≠ mb ∧ pv.ownBlock ≠ some g) w v m → TextP (fun g => ¬ Mut fb wv g ∧ g ≠ mb ∧ pv'.ownBlock ≠ some g) w' v m := fun h1 =>
    h1.chg hk (fun g _ hp e => hp.2.2 e.symm) (fun g hlt hp => ⟨hp.1, hp.2.1, hout g hlt hp.2.2⟩)
  refine ⟨h.f.chg hk (fun g hm e => (h.dp g e.symm).1 hm) (fun g hlt _ hR => ⟨fun e => hR.2 e.symm, hR.1, hout g hlt hR.2⟩), ⟨xs ++ [u], ho, by rw [List.length_append, List.length_append, hx]; rfl, fun j hj => ?_⟩, h.tak.chg hk (fun e => (h.dp mb e.symm).2 rfl), h.dm, fun g hg' => ?_, h.newf, h.newm, fun g hg' => ?_, ?_⟩
  · rw [List.length_append] at hj
    by_cases hlt : j < ps.length
    · obtain ⟨v, h1, h2⟩ := ht j hlt
      refine ⟨v, by rw [List.getElem?_append_left (by omega)]; exact h1, ?_⟩
      rw [List.getD_eq_getElem?_getD, List.getElem?_append_left hlt, ← List.getD_eq_getElem?_getD]
      exact htx h2
    · have e : j = ps.length := by simp at hj; omega
      subst e
      refine ⟨u, by rw [← hx, List.getElem?_append_right (Nat.le_refl _)]; simp, ?_⟩
      rw [List.getD_eq_getElem?_getD, List.getElem?_append_right (Nat.le_refl _)]
      simpa using htx hu
  · rcases hl g hg' with h1 | h1
    · exact h.dp g h1
    · exact ⟨(h.new g h1).1, (h.new g h1).2.1⟩
  · obtain ⟨k1, k2, k3, k4, k5⟩ := h.keep g hg'
    exact ⟨Nat.lt_of_lt_of_le k1 hk.size, k2, k3, hout g k1 k4, (hk.block g k1 (fun e => k4 e.symm)).trans k5⟩
  · exact Chg.below h.below hk h.below.size (fun g e => (h.put.lt g e.symm).1)
end
end Go.Proofs.Ytogijioehdaefaa.Flt
