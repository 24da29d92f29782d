
/- Layer 6 (edit): slices.Insert of one byte, as one law. -/
import Derived.Test.YtogijioehdaefaaEdB
namespace Go.Proofs.Ytogijioehdaefaa.Ed
open Go.RowKit Go.Lib Go.Proofs.Ytogijioehdaefaa.Mem Go.Proofs.Ytogijioehdaefaa.Oct Go.Proofs.Ytogijioehdaefaa.Pkt Go.Proofs.Ytogijioehdaefaa.Def

theorem take_splice2 {α : Type} (L D : List α) (b : α) (i n : Nat) (hn : n = i + 1 + D.length) (h : n ≤ L.length) : (splice (splice L i [b]) (i + 1) D).take n = L.take i ++ b :: D := by
  subst hn
  have e1 : (splice L i [b]).take (i + 1) = L.take i ++ [b] := by
    unfold splice
    rw [← List.append_assoc, List.take_append_of_le_length (by simp; omega), List.take_of_length_le (by simp; omega)]
  rw [splice, e1, ← List.append_assoc, List.take_append_of_le_length (by simp; omega), List.take_of_length_le (by simp; omega), List.append_assoc]
  rfl
theorem take_splice_back {α : Type} (L D : List α) (b : α) (i n : Nat) (hn : n = i + 1 + D.length) (h : n ≤ L.length) : (splice (splice L (i + 1) D) i [b]).take n = L.take i ++ b :: D := by
  subst hn
  have e1 : (splice L (i + 1) D).take i = L.take i := by
    unfold splice
    rw [List.take_append_of_le_length (by simp; omega), List.take_take]
    congr 1
    omega
  have e2 : (splice L (i + 1) D).drop (i + 1) = D ++ L.drop (i + 1 + D.length) := by
    unfold splice
    rw [List.drop_append_of_le_length (by simp; omega), List.drop_of_length_le (by simp; omega), List.nil_append]
  rw [splice, e1, List.length_singleton, e2, ← List.append_assoc, ← List.append_assoc, List.take_append_of_le_length (by simp; omega), List.take_of_length_le (by simp; omega), List.append_assoc]
  rfl

set_option maxHeartbeats 4000000 in
set_option maxRecDepth 100000 in
/-- a nil slice: a new row -/
theorem Insert_nil (vb vc : Nat) (x : Value) (w : World) (hvs : w.cell? ⟨vb, 0, none⟩ = some x) (h1v : x.oneCell' = true) :
    Calls Try.prog 37 #[.slice none 0 0, .int .i64 0, .slice (some ⟨vb, 0, none⟩) 1 vc] w fun e w' =>
      e = .returned (.slice (some ⟨w.heap.size, 0, none⟩) 1 (grownCap w 1 0 5)) ∧
      w' = w.drew.alloc (.cells (([] ++ [x] : List Value).toArray ++ Builtin.zeroCells (Value.int .u8 0).cells (grownCap w 1 0 5 - 1)) 5) := by
  obtain ⟨i0, hi0, hz0, hzs, hzb⟩ := info_parts infoU8
  have hsrc : Src Try.prog i0.size 33 (.slice (some ⟨vb, 0, none⟩) 1 vc) 1 [x] w := by
    rw [hzs]
    exact Src.ofSlice w Try.underlying33 ⟨vb, 0, none⟩ 1 vc [x] (by simp) (fun j u hj => by
      rw [Addr.add_lit]
      cases j with
      | zero => simp at hj; subst hj; exact hvs
      | succ j => simp at hj) (fun v hv => by simp at hv; subst hv; exact h1v)
  have hold : (Builtin.firstCells i0.size 0 (.slice none 0 0)).run Try.prog w.drew = .ok ([] : List Value).toArray w.drew := by
    rw [hzs]
    exact run_firstCells_none w.drew 1 0 0 0
  have hrun : ∀ ty, (Builtin.append_ #[33, 33] ty #[.slice none 0 0, .slice (some ⟨vb, 0, none⟩) 1 vc]).run Try.prog w = _ := fun ty =>
    run_append_grow_src w 33 33 ty 5 i0 _ Try.underlying33 hi0 hz0 none 0 0 [] hold _ 1 [x] hsrc (by omega) (by omega) (by rw [hzb]; exact growslice_fits (by omega) (by omega))
  go_enter Try.func37, Try.ntmps37
  go_wp2_with (at_builtin; refine Lib.wpList_append_run _ rfl _ _ _ _ rfl _ _ rfl rfl _ _ (hrun _) ?_)
  all_goals (go_ret; exact ⟨rfl, rfl⟩)

/-- a row that was just made -/
theorem own_new {E : TypeId} {w : World} {base n cap : Nat} {l : List UInt8} {cs : Array Value} (hb : base ≤ w.heap.size) (hn : n = l.length) (hc : n ≤ cap) (hm : cap ≤ maxLen) (hs : cs.size = cap) (ht : cs.toList.take n = l.map bv) :
    Own E (w.drew.alloc (.cells cs E)) base (.slice (some ⟨w.heap.size, 0, none⟩) n cap) l :=
  own_of_row (by show (w.heap.push (.cells cs E))[w.heap.size]? = _; simp) hb hn hc hm hs ht

set_option maxHeartbeats 1000000 in
theorem Insert_any (v0 : Value) (x : UInt8) (i vb vc base : Nat) (l : List UInt8) (W : World) (ho : Own 5 W base v0 l) (hB : base ≤ W.heap.size) (hv : W.heap[vb]? = some (.cells #[bv x] 5 (0, 0)))
    (hne : v0.ownBlock ≠ some vb) (hi : i ≤ l.length) (hl : l.length ≤ 1000000) :
    Calls Try.prog 37 #[v0, .int .i64 i, .slice (some ⟨vb, 0, none⟩) 1 vc] W fun e w' =>
      ∃ v', e = .returned v' ∧ Own 5 w' base v' (l.take i ++ x :: l.drop i) ∧ Chg (fun k => base ≤ k) W w' := by
  have hvs : W.cell? ⟨vb, 0, none⟩ = some (bv x) := by rw [cell_of_row W vb 0 _ _ (0, 0) hv]; rfl
  have hsa : W.shape? vb = some (5, 1) := by simp [World.shape?, hv]
  have hfa : ∀ j, W.frozen? ⟨vb, j, none⟩ = false := fun j => by simp [World.frozen?, hv]
  rcases ho.2 with ⟨rfl, hl0⟩ | ⟨g, c, cur, rfl, _⟩
  · obtain rfl := List.eq_nil_of_length_eq_zero hl0
    obtain rfl : i = 0 := by simpa using hi
    refine (Insert_nil vb vc (bv x) W hvs rfl).mono fun e w' ⟨h1, h2⟩ => ⟨_, h1, ?_, ?_⟩
    · subst h2
      refine own_new hB (by simp) (grownCap_ge _ _ _ _) (grownCap_le_maxLen _ _ _ _ (by unfold maxLen; omega)) ?_ ?_
      · have := grownCap_ge W 1 0 5
        simp [Builtin.zeroCells, Value.cells]
        omega
      · simp
    · subst h2
      exact ((chg_drew (Chg.refl _ W)).trans (chg_alloc _ _)).mono fun _ h => h.elim
  obtain ⟨cur, hg, hb, hn, hc, hm, hcs, htk⟩ := own_row ho
  have hvg : vb ≠ g := fun h => hne (by rw [h]; rfl)
  have hcl : (l.map bv).length = l.length := by simp
  have hcell : ∀ j v, (l.map bv)[j]? = some v → W.cell? ⟨g, j, none⟩ = some v := fun j v hj => by
    rw [cell_of_row W g _ cur _ (0, 0) hg, ← Array.getElem?_toList]
    rw [← htk, List.getElem?_take] at hj
    split at hj
    · exact hj
    · cases hj
  have hfz : ∀ j, W.frozen? ⟨g, j, none⟩ = false := fun j => by simp [World.frozen?, hg]
  have hsb : W.shape? g = some (5, cur.size) := by simp [World.shape?, hg]
  have hm2 : c ≤ 9223372036854775807 := hm
  have htoA : cur.toList.toArray = cur := by simp
  have hg' : W.heap[g]? = some (.cells cur.toList.toArray 5 (0, 0)) := by rw [htoA]; exact hg
  have htki : ∀ k, k ≤ l.length → cur.toList.take k = (l.take k).map bv := fun k hk => by
    have : cur.toList.take k = (cur.toList.take l.length).take k := by rw [List.take_take]; congr 1; omega
    rw [this, htk, ← List.map_take]
  have hcsl : cur.toList.length = c := by simpa using hcs
  have hone := bs_one l
  by_cases hroom : l.length + 1 ≤ c
  · have hsp : ∀ j, j < l.length + 1 → (W.cell? ⟨g, j, none⟩).isSome = true := fun j hj => by
      rw [cell_of_row W g _ cur _ (0, 0) hg, Array.getElem?_eq_getElem (by omega)]
      rfl
    by_cases hin : i < l.length
    · refine (Insert_shift g l.length c i vb vc (l.map bv) (bv x) W hin hroom hm2 hvg hcl hcell hsp (fun j _ => hfz j) hvs hone rfl _ _ _ _ hsa hsb (by omega) (hfa _) (hfa _)).mono fun e w' ⟨h1, h2⟩ => ⟨_, h1, ?_, ?_⟩
      · subst h2
        have hd : ((l.map bv).drop i).length = l.length - i := by simp
        have hr1 := row_setCells (E := 5) g ((l.map bv).drop i) (i + 1) W.drew cur.toList hg' (by omega)
        have hs1 : (splice cur.toList (i + 1) ((l.map bv).drop i)).length = c := by rw [length_splice _ _ _ (by omega), hcsl]
        have hr2 := row_setCells (E := 5) g [bv x] i _ _ hr1 (by simp; omega)
        have hs2 : (splice (splice cur.toList (i + 1) ((l.map bv).drop i)) i [bv x]).length = c := by rw [length_splice _ _ _ (by simp; omega), hs1]
        refine own_of_row hr2 hb (by simp; omega) hroom hm (by simpa using hs2) ?_
        rw [take_splice_back _ _ _ _ _ (by omega) (by omega), htki i hi]
        simp
      · subst h2
        exact ((chg_drew (Chg.refl _ W)).trans ((chg_setCells g _ _ _).trans (chg_setCells g _ _ _))).mono fun k hk => by subst hk; exact hb
    · obtain rfl : i = l.length := by omega
      refine (Insert_end_room g l.length c vb vc (bv x) W hroom hm2 (hsp _ (by omega)) (hfz _) hvs rfl).mono fun e w' ⟨h1, h2⟩ => ⟨_, h1, ?_, ?_⟩
      · subst h2
        have hr2 := row_setCells (E := 5) g [bv x] l.length W cur.toList hg' (by simp; omega)
        have hs2 : (splice cur.toList l.length [bv x]).length = c := by rw [length_splice _ _ _ (by simp; omega), hcsl]
        refine own_of_row hr2 hb (by simp) hroom hm (by simpa using hs2) ?_
        have e1 : (splice cur.toList l.length [bv x]).take (l.length + 1) = cur.toList.take l.length ++ [bv x] := by
          unfold splice
          rw [← List.append_assoc, List.take_append_of_le_length (by simp; omega), List.take_of_length_le (by simp; omega)]
        show (splice cur.toList l.length [bv x]).take (l.length + 1) = _
        rw [e1, htk]
        simp
      · subst h2
        exact (chg_setCells g _ _ _).mono fun k hk => by subst hk; exact hb
  · have hge := grownCap_ge W (l.length + 1) c 5
    have hgm := grownCap_le_maxLen W (l.length + 1) c 5 (by unfold maxLen; omega)
    by_cases hin : i < l.length
    · refine (Insert_grow g l.length c i vb vc (l.map bv) (bv x) W hin hc (by omega) (by omega) hcl hcell hvs hone rfl).mono fun e w' ⟨h1, h2⟩ => ⟨_, h1, ?_, ?_⟩
      · subst h2
        generalize hG : grownCap W (l.length + 1) c 5 = G at hge hgm
        obtain ⟨ROW, hROW⟩ : ∃ ROW : Array Value, ROW = ((l.map bv).take i).toArray ++ Builtin.zeroCells (Value.int .u8 0).cells (l.length + 1 - i) ++ Builtin.zeroCells (Value.int .u8 0).cells (G - (l.length + 1)) := ⟨_, rfl⟩
        have hRs : ROW.toList.length = G := by
          rw [hROW]
          simp [Builtin.zeroCells, Value.cells]
          omega
        have hRt : ROW.toList.take i = (l.take i).map bv := by
          rw [hROW]
          simp only [Array.toList_append, List.append_assoc]
          rw [List.take_append_of_le_length (by simp; omega), List.take_of_length_le (by simp; omega), List.map_take]
        rw [← hROW]
        have hd : ((l.map bv).drop i).length = l.length - i := by simp
        have hr0 : ((W.alloc (.cells ROW 5)).drew).heap[W.heap.size]? = some (.cells ROW.toList.toArray 5 (0, 0)) := by
          show (W.heap.push (.cells ROW 5))[W.heap.size]? = _
          simp
        have hr1 := row_setCells (E := 5) W.heap.size [bv x] i _ _ hr0 (by simp at hRs ⊢; omega)
        have hs1 : (splice ROW.toList i [bv x]).length = G := by rw [length_splice _ _ _ (by simp at hRs ⊢; omega), hRs]
        have hr2 := row_setCells (E := 5) W.heap.size ((l.map bv).drop i) (i + 1) (((W.alloc (.cells ROW 5)).drew.setCells W.heap.size i [bv x]).drew) _ hr1 (by omega)
        have hs2 : (splice (splice ROW.toList i [bv x]) (i + 1) ((l.map bv).drop i)).length = G := by rw [length_splice _ _ _ (by omega), hs1]
        refine own_of_row hr2 hB (by simp; omega) hge hgm (by simpa using hs2) ?_
        rw [take_splice2 _ _ _ _ _ (by omega) (by omega), hRt]
        simp
      · subst h2
        refine Chg.more (r := fun k => k = W.heap.size) (((chg_alloc W _).mono fun _ h => h.elim)) (chg_drew (Chg.refl _ _) |>.trans ((chg_setCells W.heap.size _ _ _).trans ((chg_drew (Chg.refl _ _)).trans (chg_setCells W.heap.size _ _ _)))) fun k hk he => by omega
    · obtain rfl : i = l.length := by omega
      refine (Insert_end_grow g l.length c vb vc (l.map bv) (bv x) W hc (by omega) (by omega) hcl hcell hvs rfl).mono fun e w' ⟨h1, h2⟩ => ⟨_, h1, ?_, ?_⟩
      · subst h2
        refine own_new hB (by simp) hge hgm ?_ ?_
        · simp [Builtin.zeroCells, Value.cells]
          omega
        · simp only [Array.toList_append]
          rw [List.take_append_of_le_length (by simp), List.take_of_length_le (by simp)]
          simp
      · subst h2
        exact ((chg_drew (Chg.refl _ W)).trans (chg_alloc _ _)).mono fun _ h => h.elim
end Go.Proofs.Ytogijioehdaefaa.Ed
