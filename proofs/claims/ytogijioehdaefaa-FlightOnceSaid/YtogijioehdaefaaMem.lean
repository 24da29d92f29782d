
/- Words for slices of bytes: what came in, what the call owns; append, make, store, cut in these words. No function of the program in sight. -/
import Derived.WalkKit
import Derived.ProofKit
import Derived.OpenShut
import Derived.Below
import Derived.Carry
import Derived.SizedLaws
import Derived.Laws.OwnMore
import Derived.OwnWalk
import Derived.Deep.AppendLies
import Derived.Deep.Draws
import Derived.Maps.AppendAt
import Derived.Lib.Hide
import Derived.Laws.BytesString
import Derived.Laws.Cells
import Derived.Laws.Externs
namespace Go.Proofs.Ytogijioehdaefaa.Mem
open Go.ChangeShapes Go.WideShapes Go.RowKit

def bv (c : UInt8) : Value := .int .u8 (c.toNat : Int)
def nth8 (l : List UInt8) (i : Nat) : UInt8 := l.getD i 0
theorem take_snoc (l : List UInt8) (k : Nat) (h : k < l.length) : l.take (k + 1) = l.take k ++ [nth8 l k] := by
  unfold nth8
  rw [List.take_succ_eq_append_getElem h]
  simp [List.getD, h]
def byteAt (l : List UInt8) (i : Nat) : Int := ((l.getD i 0).toNat : Int)

theorem byteAt_range (l : List UInt8) (i : Nat) : 0 ≤ byteAt l i ∧ byteAt l i ≤ 255 := by
  unfold byteAt
  have := (l.getD i 0).toNat_lt
  omega

/-- what came in: the address leads to the bytes l, below block number B -/
def Bytes (w : World) (B : Nat) (A : Option Addr) (l : List UInt8) : Prop :=
  0 < l.length → ∃ b off, A = some ⟨b, off, none⟩ ∧ b < B ∧ ∀ i, i < l.length → w.cell? ⟨b, off + i, none⟩ = some (.int .u8 (byteAt l i))

theorem Bytes.at_ {w : World} {B : Nat} {A : Option Addr} {l : List UInt8} (h : Bytes w B A l) {k : Nat} (hk : k < l.length) :
    ∃ b off, A = some ⟨b, off, none⟩ ∧ b < B ∧ w.cell? ⟨b, off + k, none⟩ = some (.int .u8 (byteAt l k)) := by
  obtain ⟨b, off, hA, hb, hc⟩ := h (by omega)
  exact ⟨b, off, hA, hb, hc k hk⟩
theorem Bytes.nil (w : World) (B : Nat) (A : Option Addr) : Bytes w B A [] := fun h => absurd h (by simp)
theorem Bytes.keep {w w' : World} {B : Nat} {A : Option Addr} {l : List UInt8} (h : Bytes w B A l) (hk : ∀ p : Addr, p.block < B → w'.cell? p = w.cell? p) : Bytes w' B A l := by
  intro hp
  obtain ⟨b, off, hA, hb, hc⟩ := h hp
  exact ⟨b, off, hA, hb, fun i hi => (hk _ hb).trans (hc i hi)⟩
theorem Bytes.below {w w' : World} {B C : Nat} {A : Option Addr} {l : List UInt8} (h : Bytes w B A l) (hb : Below C w w') (hC : B ≤ C) : Bytes w' B A l :=
  h.keep fun _ hp => hb.cell (Nat.lt_of_lt_of_le hp hC)
theorem Bytes.more {w : World} {B B' : Nat} {A : Option Addr} {l : List UInt8} (h : Bytes w B A l) (hB : B ≤ B') : Bytes w B' A l := by
  intro hp
  obtain ⟨b, off, hA, hb, hc⟩ := h hp
  exact ⟨b, off, hA, by omega, hc⟩

theorem byteAt_drop (l : List UInt8) (k i : Nat) : byteAt (l.drop k) i = byteAt l (k + i) := by
  unfold byteAt
  simp [List.getD]
theorem byteAt_take (l : List UInt8) (k i : Nat) (h : i < k) : byteAt (l.take k) i = byteAt l i := by
  unfold byteAt
  simp [List.getD, h]

/-- 'b[lo:hi]' -/
theorem Bytes.cut {w : World} {B : Nat} {A : Option Addr} {l : List UInt8} (h : Bytes w B A l) {lo hi cap : Nat} (hlo : lo ≤ hi) (hhi : hi ≤ l.length) (hc : l.length ≤ cap) :
    Bytes w B (if cap = lo then A else A.map (·.add lo)) ((l.take hi).drop lo) := by
  intro hp
  simp only [List.length_drop, List.length_take] at hp
  obtain ⟨b, off, rfl, hb, hcell⟩ := h (by omega)
  rw [if_neg (by omega)]
  refine ⟨b, off + lo, by simp [Addr.add_lit], hb, fun i hi' => ?_⟩
  simp only [List.length_drop, List.length_take] at hi'
  rw [Nat.add_assoc, hcell (lo + i) (by omega), byteAt_drop, byteAt_take _ _ _ (by omega)]

theorem Bytes.take {w : World} {B : Nat} {A : Option Addr} {l : List UInt8} (h : Bytes w B A l) {k : Nat} (hk : k ≤ l.length) : Bytes w B A (l.take k) := by
  intro hp
  simp only [List.length_take] at hp
  obtain ⟨b, off, rfl, hb, hcell⟩ := h (by omega)
  refine ⟨b, off, rfl, hb, fun i hi => ?_⟩
  simp only [List.length_take] at hi
  rw [hcell i (by omega), byteAt_take _ _ _ (by omega)]
theorem Bytes.drop {w : World} {B : Nat} {A : Option Addr} {l : List UInt8} (h : Bytes w B A l) {k : Nat} (hk : k ≤ l.length) : Bytes w B (A.map (fun x => x.add k)) (l.drop k) := by
  intro hp
  simp only [List.length_drop] at hp
  obtain ⟨b, off, rfl, hb, hcell⟩ := h (by omega)
  refine ⟨b, off + k, by simp [Addr.add_lit], hb, fun i hi => ?_⟩
  simp only [List.length_drop] at hi
  rw [Nat.add_assoc, hcell (k + i) (by omega), byteAt_drop]
theorem slice_le_reach {els sp : List Nat} : els.length ≤ els.length + sp.length := Nat.le_add_right _ _

/-- an argument of type []byte, opened -/
theorem open_bytes {H : Type} {enc : TypeId × Value → H} {P : Program} {W : World} {base : Nat} {t e : TypeId} {v : Value} {d : DataW H} {p : List MemPlace}
    (ht : P.underlying t = some (.slice e)) (he : P.underlying e = some (.int .u8)) (hc : P.cellsOf e = 1)
    (hv : Value.okWide P W .any base t v) (h : DataW.Trod enc P W 0 (fun _ => true) true t v d p) :
    ∃ A cap l, v = .slice A l.length cap ∧ Bytes W W.heap.size A l ∧ l.length ≤ cap ∧ cap ≤ maxLen ∧
      ((A = none ∧ l = []) ∨ ∃ els sp, d = .slice els sp ∧ els.length = l.length ∧ A ≠ none) := by
  obtain ⟨a, len, cap, rfl⟩ := okWide_slice ht hv
  have lt0 : ∀ x ∈ p, x.block < W.heap.size := by obtain ⟨m, hm⟩ := h; exact DataW.trod_lt m _ _ _ hm
  obtain ⟨fuel, hf⟩ := h
  rcases open_ints ht he hc hf with ⟨hcs, _⟩ | ⟨x, l, c, zs, hcs, _, hl, hm, hz, hx, hcell, hwz⟩
  · simp [Value.cells] at hcs
    obtain ⟨rfl, rfl, rfl⟩ := hcs
    exact ⟨none, 0, [], rfl, Bytes.nil _ _ _, Nat.zero_le _, Nat.zero_le _, .inl ⟨rfl, rfl⟩⟩
  · simp [Value.cells] at hcs
    obtain ⟨rfl, rfl, rfl⟩ := hcs
    simp only [if_true] at hz
    obtain ⟨ns, hns⟩ : ∃ ns : List UInt8, ns = (zs.take len).map (fun z => UInt8.ofNat z.toNat) := ⟨_, rfl⟩
    have hlen : ns.length = len := by rw [hns, List.length_map, List.length_take]; omega
    simp only [Prod.mk.injEq] at hx
    refine ⟨some x, cap, ns, by rw [hlen], ?_, by omega, hm, .inr ⟨_, _, hx.1, by simp [lits, hlen]; omega, by simp⟩⟩
    intro hp
    obtain ⟨b, off, rfl, hcell'⟩ := ints_at hcell (by omega)
    have hblk : b < W.heap.size := World.block_lt_of_cell? W ⟨b, off + 0, none⟩ (hcell' 0 (by omega))
    refine ⟨b, off, rfl, hblk, fun i hi => ?_⟩
    rw [hcell' i (by omega)]
    have hil : i < zs.length := by omega
    have hzi : zs.getD i 0 = zs[i] := by simp [List.getD, hil]
    have hw := bounds_u8 (hwz zs[i] (List.getElem_mem hil))
    have e1 : byteAt ns i = zs[i] := by
      unfold byteAt
      rw [hns]
      have : i < len := by omega
      simp [List.getD, hil, this]
      omega
    rw [hzi, e1]

theorem slice_le {α : Type} (els sp : List α) : els.length + sp.length + 1 ≤ els.length + sp.length + 1 := Nat.le_refl _

/-- what the call owns: v is nil and l empty, or v begins at the head of a row of its own, whose first cells are l -/
def Own (E : TypeId) (w : World) (base : Nat) (v : Value) (l : List UInt8) : Prop := w.ownsRow base E 1 v l.length (l.map bv)

section
variable {E : TypeId} {w w' : World} {base : Nat} {v : Value} {l : List UInt8}
theorem Own.nil (E : TypeId) (w : World) (base : Nat) : Own E w base (.slice none 0 0) [] := World.ownsRow_nil w base E 1
theorem Own.shape (h : Own E w base v l) : ∃ A cap, v = .slice A l.length cap ∧ l.length ≤ cap ∧ cap ≤ maxLen ∧ (A = none → l = []) := by
  rcases h.2 with ⟨rfl, h0⟩ | ⟨g, cap, cur, rfl, _, _, hn, hm, _⟩
  · exact ⟨none, 0, by rw [h0], by omega, Nat.zero_le _, fun _ => List.eq_nil_of_length_eq_zero h0⟩
  · exact ⟨_, cap, rfl, hn, hm, fun h => by cases h⟩
theorem Own.bytes {A : Option Addr} {n cap : Nat} (h : Own E w base (.slice A n cap) l) : Bytes w w.heap.size A l := by
  intro hp
  rcases h.2 with ⟨_, h0⟩ | ⟨g, cap', cur, hv, hb, hg, hn, _, hcs, htake⟩
  · omega
  · injection hv with hA _ _
    subst hA
    refine ⟨g, 0, rfl, (Array.getElem?_eq_some_iff.1 hg).1, fun i hi => ?_⟩
    rw [Nat.zero_add, cell_of_row w g i cur E (0, 0) hg]
    have h1 : (cur.toList.take (l.length * 1))[i]? = (l.map bv)[i]? := by rw [htake]
    rw [List.getElem?_take, if_pos (by omega)] at h1
    have h2 : (l.map bv)[i]? = some (.int .u8 (byteAt l i)) := by
      simp [bv, byteAt, List.getD, hi]
    rw [h2] at h1
    simpa using h1
theorem Own.mono {base' : Nat} (h : Own E w base v l) (hb : base' ≤ base) : Own E w base' v l := by
  refine ⟨h.1, ?_⟩
  rcases h.2 with h0 | ⟨g, cap, cur, hv, hbg, r⟩
  · exact .inl h0
  · exact .inr ⟨g, cap, cur, hv, by omega, r⟩
/-- what is owned stays owned while nothing below 'C' turns, and it lies below C -/
theorem Own.keep {C : Nat} (h : Own E w base v l) (hb : Below C w w') (hC : ∀ g, v.ownBlock = some g → g < C) : Own E w' base v l := by
  refine ⟨h.1, ?_⟩
  rcases h.2 with h0 | ⟨g, cap, cur, rfl, hbg, hg, r⟩
  · exact .inl h0
  · exact .inr ⟨g, cap, cur, rfl, hbg, (hb.block g (hC g rfl)).trans hg, r⟩
theorem Own.below (h : Own E w base v l) (hb : Below w.heap.size w w') : Own E w' base v l := h.keep hb fun g hg => (World.ownsRow.lt h g hg).2
theorem Own.alloc (h : Own E w base v l) (o : Obj) : Own E (w.alloc o) base v l := World.ownsRow.alloc h o
theorem Own.drew (h : Own E w base v l) : Own E w.drew base v l := h
theorem Own.lt (h : Own E w base v l) : ∀ g, v.ownBlock = some g → base ≤ g ∧ g < w.heap.size := World.ownsRow.lt h
/-- the law's step leaves what was there -/
theorem Own.grown {C : Nat} {w0 : World} (h : Own E w base v l) (hb : Below C w0 w) (hg : w.grownBy w' v.ownBlock) (hC : C ≤ base) (hw : C ≤ w0.heap.size) : Below C w0 w' :=
  hb.grown hg (Nat.le_trans hw hb.size) fun k hk => Nat.le_trans hC (h.lt k hk).1
end

theorem below_drewN {B : Nat} {a w : World} (h : Below B a w) (n : Nat) : Below B a (w.drewN n) := ⟨h.os, h.tape, h.output, h.size, h.block⟩

theorem bs_one (l : List UInt8) : ∀ u ∈ l.map bv, u.oneCell' = true := by
  intro u hu
  obtain ⟨_, _, rfl⟩ := List.mem_map.1 hu
  rfl

/-- 'append(s, c, d, ..)' where the new bytes lie in the block that was laid for them just before -/
theorem wpList_app_lit {P : Program} (w : World) {ops : Array Oper} {rest : List Oper} {o : Oper} {a : Act} {Q : Exit → Act → World → Prop} (hgd : o.guard = none) (s x : Operand) (t : TypeId)
    (ho : o.op = .call { callee := .builtin .append, args := #[s, x], argTypes := #[t, t] })
    (E : TypeId) (ht : P.underlying t = some (.slice E)) (hi : (P.info? E).map (fun i => (i.zero, i.size, i.bytes)) = some (some (.int .u8 0), 1, 1))
    (base : Nat) (v : Value) (l : List UInt8) (hs : a.eval s = v) (hown : Own E w base v l) (new : List UInt8) (m c : Nat) (cs : Array Value) (hcs : cs = (new.map bv).toArray)
    (hx : a.eval x = .slice (some ⟨w.heap.size, 0, none⟩) m c) (hm : m = new.length) (hb : base ≤ w.heap.size) (hlen : l.length + new.length ≤ 140737488355328)
    (h : ∀ v' w', Own E w' base v' (l ++ new) → w.grownBy w' v.ownBlock → wpList P ops Q rest (a.put o.dst v') w') : wpList P ops Q (o :: rest) a (w.alloc (.cells cs E)) := by
  obtain ⟨i, h1, h2, h3, h4⟩ := info_parts hi
  subst hcs hm
  refine wpList_append_own (w.alloc (.cells (new.map bv).toArray E)) hgd s x t ho base E i (.int .u8 0) 1 1 ht h1 h2 h3 h4 rfl (by decide) v l.length (l.map bv) hs (World.ownsRow.alloc hown _)
    ⟨w.heap.size, 0, none⟩ new.length c (new.map bv) hx (by simp) ?_ (bs_one new) (by unfold maxLen; omega) (by omega) (by simp; omega) ?_
  · intro j u hu
    rw [Addr.add_lit, Nat.zero_add]
    rw [cell_of_row _ w.heap.size j (new.map bv).toArray E (0, 0) (heap_alloc_new w _)]
    simpa using hu
  · intro v' w' ho' hg _
    refine h v' w' (by unfold Own; rw [List.length_append, List.map_append]; exact ho') ?_
    have ha := World.grownBy_alloc w (.cells (new.map bv).toArray E) v.ownBlock
    exact ⟨hg.os.trans ha.os, hg.tape.trans ha.tape, hg.output.trans ha.output, Nat.le_trans ha.size hg.size, fun k hk hne => (hg.block k (Nat.lt_of_lt_of_le hk ha.size) hne).trans (ha.block k hk hne)⟩

/-- 'append(s, c, d, ..)' within the capacity: the value is known -/
theorem wpList_app_fits {P : Program} (w : World) {ops : Array Oper} {rest : List Oper} {o : Oper} {a : Act} {Q : Exit → Act → World → Prop} (hgd : o.guard = none) (s x : Operand) (t : TypeId)
    (ho : o.op = .call { callee := .builtin .append, args := #[s, x], argTypes := #[t, t] })
    (E : TypeId) (ht : P.underlying t = some (.slice E)) (hi : (P.info? E).map (fun i => (i.zero, i.size, i.bytes)) = some (some (.int .u8 0), 1, 1))
    (base g n cap : Nat) (l : List UInt8) (hs : a.eval s = .slice (some ⟨g, 0, none⟩) n cap) (hown : Own E w base (.slice (some ⟨g, 0, none⟩) n cap) l) (hn : n = l.length) (new : List UInt8) (m c : Nat) (cs : Array Value) (hcs : cs = (new.map bv).toArray)
    (hx : a.eval x = .slice (some ⟨w.heap.size, 0, none⟩) m c) (hm : m = new.length) (hroom : l.length + new.length ≤ cap)
    (h : ∀ w', Own E w' base (.slice (some ⟨g, 0, none⟩) (n + m) cap) (l ++ new) → w.grownBy w' (some g) → wpList P ops Q rest (a.put o.dst (.slice (some ⟨g, 0, none⟩) (n + m) cap)) w') : wpList P ops Q (o :: rest) a (w.alloc (.cells cs E)) := by
  obtain ⟨i, h1, _, h3, _⟩ := info_parts hi
  subst hcs hm hn
  refine wpList_append_fits (w.alloc (.cells (new.map bv).toArray E)) hgd s x t ho base E i 1 ht h1 h3 g l.length cap (l.map bv) hs (World.ownsRow.alloc hown _)
    ⟨w.heap.size, 0, none⟩ new.length c (new.map bv) hx (by simp) ?_ (bs_one new) hroom ?_
  · intro j u hu
    rw [Addr.add_lit, Nat.zero_add]
    rw [cell_of_row _ w.heap.size j (new.map bv).toArray E (0, 0) (heap_alloc_new w _)]
    simpa using hu
  · intro w' ho' hg
    refine h w' (by unfold Own; rw [List.length_append, List.map_append]; exact ho') ?_
    have ha := World.grownBy_alloc w (.cells (new.map bv).toArray E) (some g)
    exact ⟨hg.os.trans ha.os, hg.tape.trans ha.tape, hg.output.trans ha.output, Nat.le_trans ha.size hg.size, fun k hk hne => (hg.block k (Nat.lt_of_lt_of_le hk ha.size) hne).trans (ha.block k hk hne)⟩

/-- 'append(s, p...)', p read as bytes: nil, empty or not -/
theorem wpList_app {P : Program} (w : World) {ops : Array Oper} {rest : List Oper} {o : Oper} {a : Act} {Q : Exit → Act → World → Prop} (hgd : o.guard = none) (s x : Operand) (t : TypeId)
    (ho : o.op = .call { callee := .builtin .append, args := #[s, x], argTypes := #[t, t] })
    (E : TypeId) (ht : P.underlying t = some (.slice E)) (hi : (P.info? E).map (fun i => (i.zero, i.size, i.bytes)) = some (some (.int .u8 0), 1, 1))
    (base : Nat) (v : Value) (l : List UInt8) (hs : a.eval s = v) (hown : Own E w base v l) (B : Nat) (A : Option Addr) (m c : Nat) (new : List UInt8)
    (hx : a.eval x = .slice A m c) (hm : m = new.length) (hr : Bytes w B A new) (hb : base ≤ w.heap.size) (hlen : l.length + new.length ≤ 140737488355328)
    (h : ∀ v' w', Own E w' base v' (l ++ new) → w.grownBy w' v.ownBlock → wpList P ops Q rest (a.put o.dst v') w') : wpList P ops Q (o :: rest) a w := by
  obtain ⟨i, h1, h2, h3, h4⟩ := info_parts hi
  subst hm
  rcases A with _ | ad
  · have hn : new = [] := by
      rcases Nat.eq_zero_or_pos new.length with h0 | h0
      · exact List.eq_nil_of_length_eq_zero h0
      · obtain ⟨_, _, hA, _⟩ := hr h0
        cases hA
    subst hn
    have hrun : (Builtin.append_ #[t, t] o.type #[v, .slice none 0 c]).run P w = .ok v w := by
      rcases hown.2 with ⟨rfl, _⟩ | ⟨g, cap, cur, rfl, _, _, hnc, _⟩
      · simp [Builtin.append_, run_underlying ht, sizeOf, typeInfo, h1, Builtin.lenOf, Builtin.firstCells]
      · simp [Builtin.append_, run_underlying ht, sizeOf, typeInfo, h1, Builtin.lenOf, Builtin.firstCells, hnc, storeCells]
    refine wpList_plain hgd fun K hK => ?_
    unfold Oper.wp execOp
    simp only [ho, resolve, invoke, builtin, Sem.run_bind, Sem.run_pure, Result.andThen_ok, List.map_toArray, List.map_cons, List.map_nil, hs, hx, List.length_nil, hrun]
    exact hK _ _ (h v w (by simpa using hown) (World.grownBy.refl w _))
  · refine wpList_append_own w hgd s x t ho base E i (.int .u8 0) 1 1 ht h1 h2 h3 h4 rfl (by decide) v l.length (l.map bv) hs hown
      ad new.length c (new.map bv) hx (by simp) ?_ (bs_one new) (by unfold maxLen; omega) (by omega) hb ?_
    · intro j u hu
      have hj : j < new.length := by
        have := (List.getElem?_eq_some_iff.1 hu).1
        simpa using this
      obtain ⟨b, off, hA, _, hc⟩ := hr (by omega)
      injection hA with hA
      subst hA
      rw [Addr.add_lit, hc j hj, ← hu]
      simp [bv, byteAt, List.getD, hj]
    · intro v' w' ho' hg _
      exact h v' w' (by unfold Own; rw [List.length_append, List.map_append]; exact ho') hg

/-- what 'make([]byte, n)' leaves -/
theorem own_made {E : TypeId} {w : World} {base n : Nat} {v : Value} (h : w.ownsRow base E 1 v n (madeCells #[.int .u8 0] n).toList) : Own E w base v (List.replicate n 0) := by
  unfold Own
  rw [toList_madeCells_one] at h
  simpa [bv] using h
theorem own_made0 {E : TypeId} {w : World} {base : Nat} {v : Value} (h : w.ownsRow base E 1 v 0 []) : Own E w base v [] := h

/-- '[]byte{c, d, ..}' -/
theorem own_lit (E : TypeId) (w : World) {base : Nat} (hb : base ≤ w.heap.size) (l : List UInt8) (cs : Array Value) (hcs : cs = (l.map bv).toArray) (hm : l.length ≤ maxLen) :
    Own E (w.alloc (.cells cs E)) base (.slice (some ⟨w.heap.size, 0, none⟩) l.length l.length) l := by
  subst hcs
  have := World.ownsRow_lit (e := E) (base := base) (size := 1) w (l.map bv).toArray l.length hb hm (by simp)
  simpa [Own] using this

/-- 's[j] = c' on a row of the call's own -/
theorem Own.set {E : TypeId} {w : World} {base g n cap : Nat} {l : List UInt8} (h : Own E w base (.slice (some ⟨g, 0, none⟩) n cap) l) (j : Nat) (c : UInt8) :
    Own E (w.setCell ⟨g, j, none⟩ (.int .u8 (c.toNat : Int))) base (.slice (some ⟨g, 0, none⟩) n cap) (l.set j c) := by
  have hn : n = l.length := by
    rcases h.2 with ⟨h', _⟩ | ⟨g', cap', cur, h', _⟩
    · simp at h'
    · simp only [Value.slice.injEq] at h'
      exact h'.2.1
  subst hn
  unfold Own at h ⊢
  rw [List.length_set]
  have := (World.ownsRow.stored h j (bv c)).1
  rw [show (l.set j c).map bv = (l.map bv).set j (bv c) by rw [List.map_set]]
  exact this
theorem Own.cellAt {E : TypeId} {w : World} {base g n cap : Nat} {l : List UInt8} (h : Own E w base (.slice (some ⟨g, 0, none⟩) n cap) l) {j : Nat} (hj : j < l.length) :
    w.cell? ⟨g, j, none⟩ = some (.int .u8 (byteAt l j)) ∧ w.frozen? ⟨g, j, none⟩ = false := by
  obtain ⟨b, off, hA, _, hc⟩ := h.bytes (by omega)
  simp only [Option.some.injEq, Addr.mk.injEq] at hA
  obtain ⟨rfl, rfl, _⟩ := hA
  refine ⟨by simpa using hc j hj, ?_⟩
  have hn : n = l.length := by
    rcases h.2 with ⟨h', _⟩ | ⟨g', cap', cur, h', _⟩
    · simp at h'
    · simp only [Value.slice.injEq] at h'
      exact h'.2.1
  subst hn
  exact World.ownsRow.frozenAt h j

/-- a row of the call's own, of whatever one-cell elements -/
def OwnV (E : TypeId) (w : World) (base : Nat) (v : Value) (xs : List Value) : Prop := w.ownsRow base E 1 v xs.length xs
section
variable {E : TypeId} {w w' : World} {base : Nat} {v : Value} {xs : List Value}
theorem OwnV.nil (E : TypeId) (w : World) (base : Nat) : OwnV E w base (.slice none 0 0) [] := World.ownsRow_nil w base E 1
theorem OwnV.shape (h : OwnV E w base v xs) : ∃ A cap, v = .slice A xs.length cap ∧ xs.length ≤ cap ∧ cap ≤ maxLen ∧ (A = none → xs = []) := by
  rcases h.2 with ⟨rfl, h0⟩ | ⟨g, cap, cur, rfl, _, _, hn, hm, _⟩
  · exact ⟨none, 0, by rw [h0], by omega, Nat.zero_le _, fun _ => List.eq_nil_of_length_eq_zero h0⟩
  · exact ⟨_, cap, rfl, hn, hm, fun h => by cases h⟩
theorem OwnV.lt (h : OwnV E w base v xs) : ∀ g, v.ownBlock = some g → base ≤ g ∧ g < w.heap.size := World.ownsRow.lt h
theorem OwnV.keep {C : Nat} (h : OwnV E w base v xs) (hb : Below C w w') (hC : ∀ g, v.ownBlock = some g → g < C) : OwnV E w' base v xs := by
  refine ⟨h.1, ?_⟩
  rcases h.2 with h0 | ⟨g, cap, cur, rfl, hbg, hg, r⟩
  · exact .inl h0
  · exact .inr ⟨g, cap, cur, rfl, hbg, (hb.block g (hC g rfl)).trans hg, r⟩
theorem OwnV.below (h : OwnV E w base v xs) (hb : Below w.heap.size w w') : OwnV E w' base v xs := h.keep hb fun g hg => (World.ownsRow.lt h g hg).2
theorem OwnV.mono {base' : Nat} (h : OwnV E w base v xs) (hb : base' ≤ base) : OwnV E w base' v xs := by
  refine ⟨h.1, ?_⟩
  rcases h.2 with h0 | ⟨g, cap, cur, hv, hbg, r⟩
  · exact .inl h0
  · exact .inr ⟨g, cap, cur, hv, by omega, r⟩
theorem OwnV.at_ {A : Option Addr} {n cap k : Nat} (h : OwnV E w base (.slice A n cap) xs) (hk : k < xs.length) :
    ∃ g, A = some ⟨g, 0, none⟩ ∧ base ≤ g ∧ g < w.heap.size ∧ w.cell? ⟨g, k, none⟩ = xs[k]? ∧ w.frozen? ⟨g, k, none⟩ = false := by
  have h0 := h
  rcases h.2 with ⟨_, h0⟩ | ⟨g, cap', cur, hv, hb, hg, hn, _, hcs, htake⟩
  · omega
  · simp only [Value.slice.injEq] at hv
    obtain ⟨rfl, rfl, rfl⟩ := hv
    exact ⟨g, rfl, hb, (Array.getElem?_eq_some_iff.1 hg).1, World.ownsRow.cellAt h0 k (by omega), World.ownsRow.frozenAt h0 k⟩
theorem OwnV.set {g n cap : Nat} (h : OwnV E w base (.slice (some ⟨g, 0, none⟩) n cap) xs) (j : Nat) (u : Value) :
    OwnV E (w.setCell ⟨g, j, none⟩ u) base (.slice (some ⟨g, 0, none⟩) n cap) (xs.set j u) := by
  have hn : n = xs.length := by
    rcases h.2 with ⟨h', _⟩ | ⟨g', cap', cur, h', _⟩
    · simp at h'
    · simp only [Value.slice.injEq] at h'
      exact h'.2.1
  subst hn
  have := (World.ownsRow.stored h j u).1
  unfold OwnV
  rw [List.length_set]
  exact this
theorem OwnV.grown {C : Nat} {w0 : World} (h : OwnV E w base v xs) (hb : Below C w0 w) (hg : w.grownBy w' v.ownBlock) (hC : C ≤ base) (hw : C ≤ w0.heap.size) : Below C w0 w' :=
  hb.grown hg (Nat.le_trans hw hb.size) fun k hk => Nat.le_trans hC (h.lt k hk).1
end
/-- what 'make([]bool, n)' leaves -/
theorem ownV_made {E : TypeId} {w : World} {base n : Nat} {v z : Value} (h : w.ownsRow base E 1 v n (madeCells #[z] n).toList) : OwnV E w base v (List.replicate n z) := by
  unfold OwnV
  rw [toList_madeCells_one] at h
  simpa using h

theorem push_fold (l : List UInt8) : ∀ s : ByteArray, (l.map fun c => (c.toNat : Int)).foldl (fun r n => r.push (UInt8.ofNat n.toNat)) s = ⟨s.data ++ l.toArray⟩ := by
  induction l with
  | nil => intro s; simp
  | cons c l ih =>
    intro s
    rw [List.map_cons, List.foldl_cons, ih]
    simp [ByteArray.push]

theorem Bytes.cells {w : World} {B : Nat} {A : Option Addr} {l : List UInt8} (h : Bytes w B A l) {ad : Addr} (hA : A = some ad) : ∀ j v, (l.map bv)[j]? = some v → w.cell? (ad.add j) = some v := by
  intro j u hu
  have hj : j < l.length := by
    have := (List.getElem?_eq_some_iff.1 hu).1
    simpa using this
  obtain ⟨b, off, hA', _, hc⟩ := h (by omega)
  rw [hA] at hA'
  injection hA' with hA'
  subst hA'
  rw [Addr.add_lit, hc j hj, ← hu]
  simp [bv, byteAt, List.getD, hj]

theorem Bytes.none_nil {w : World} {B : Nat} {l : List UInt8} (h : Bytes w B none l) : l = [] := by
  rcases Nat.eq_zero_or_pos l.length with h0 | h0
  · exact List.eq_nil_of_length_eq_zero h0
  · obtain ⟨_, _, hA, _⟩ := h h0
    cases hA

theorem ba_empty : (ByteArray.empty : ByteArray) = ⟨#[]⟩ := rfl

/-- 'string(b)' -/
theorem run_conv {P : Program} (w : World) {src dst e : TypeId} (hs : P.underlying src = some (.slice e)) (he : P.underlying e = some (.int .u8)) (hd : P.underlying dst = some .string)
    {B : Nat} {A : Option Addr} {l : List UInt8} (h : Bytes w B A l) (c : Nat) : (convert src dst (.slice A l.length c)).run P w = .ok (.string ⟨l.toArray⟩) w := by
  rw [run_convert_bytes_string w src dst e A l.length c hs he hd]
  rcases A with _ | ad
  · have := h.none_nil
    subst this
    rfl
  · have hl := run_loadCells_list (P := P) (w := w) ad (l.map bv) (h.cells rfl)
    rw [List.length_map] at hl
    have hm : l.map bv = (l.map fun c => (c.toNat : Int)).map (Value.int .u8) := by rw [List.map_map]; rfl
    rw [hm] at hl
    rw [run_bytesToString w ad l.length c _ hl, push_fold]
    simp [ba_empty]

theorem run_loadBytes {P : Program} (w : World) : ∀ (l : List UInt8) (b off : Nat) (acc : ByteArray), (∀ i, i < l.length → w.cell? ⟨b, off + i, none⟩ = some (.int .u8 (byteAt l i))) →
    (Extern.Bytes.loadBytes ⟨b, off, none⟩ l.length acc).run P w = .ok ⟨acc.data ++ l.toArray⟩ w := by
  intro l
  induction l with
  | nil => intro b off acc _; simp [Extern.Bytes.loadBytes, Sem.run_pure]
  | cons c l ih =>
    intro b off acc h
    have h0 := h 0 (by simp)
    have hi := ih b (off + 1) (acc.push c) (fun i hi => by
      have := h (i + 1) (by simp; omega)
      rw [show off + 1 + i = off + (i + 1) by omega, this]
      simp [byteAt, List.getD])
    have hc : ((⟨b, off, none⟩ : Addr).add 1) = ⟨b, off + 1, none⟩ := by rw [Addr.add_lit]
    have hb : byteAt (c :: l) 0 = (c.toNat : Int) := by simp [byteAt, List.getD]
    rw [hb] at h0
    rw [Nat.add_zero] at h0
    have hld : (load ⟨b, off, none⟩).run P w = .ok (.int .u8 (c.toNat : Int)) w := by rw [run_load]; simp [h0]
    simp only [List.length_cons, Extern.Bytes.loadBytes, Sem.run_bind, hld, Result.andThen_ok, hc]
    rw [show ((c.toNat : Int).toNat.toUInt8) = c by simp, hi]
    simp [ByteArray.push]

theorem run_bytesOf {P : Program} (w : World) {B : Nat} {A : Option Addr} {l : List UInt8} (h : Bytes w B A l) (c : Nat) : (Extern.Bytes.bytesOf (.slice A l.length c)).run P w = .ok ⟨l.toArray⟩ w := by
  rcases A with _ | ad
  · have := h.none_nil
    subst this
    rfl
  · rcases Nat.eq_zero_or_pos l.length with h0 | h0
    · have := List.eq_nil_of_length_eq_zero h0
      subst this
      rfl
    · obtain ⟨b, off, hA, _, hc⟩ := h h0
      injection hA with hA
      subst hA
      simp only [Extern.Bytes.bytesOf]
      rw [run_loadBytes w l b off _ hc]
      simp [ba_empty]

theorem Own.later {E : TypeId} {w w' : World} {base n cap : Nat} {A : Option Addr} {l : List UInt8} (h : Own E w base (.slice A n cap) l) (hb : Below w.heap.size w w') : Bytes w' w'.heap.size A l :=
  (h.bytes.below hb (Nat.le_refl _)).more hb.size
theorem Bytes.later {w w' : World} {A : Option Addr} {l : List UInt8} (h : Bytes w w.heap.size A l) (hb : Below w.heap.size w w') : Bytes w' w'.heap.size A l :=
  (h.below hb (Nat.le_refl _)).more hb.size
/-- the next call's new blocks lie behind -/
theorem below_next {a b c : World} (h : Below a.heap.size a b) (k : Below b.heap.size b c) : Below a.heap.size a c := h.trans (k.mono h.size)
theorem below_alloc {a b : World} (h : Below a.heap.size a b) (o : Obj) : Below a.heap.size a (b.alloc o) := h.alloc h.size o
/-- bytes that a literal laid -/
theorem lit_bytes (E : TypeId) (w : World) (l : List UInt8) (cs : Array Value) (hcs : cs = (l.map bv).toArray) (hm : l.length ≤ maxLen) : Bytes (w.alloc (.cells cs E)) (w.alloc (.cells cs E)).heap.size (some ⟨w.heap.size, 0, none⟩) l :=
  (own_lit E w (Nat.le_refl _) l cs hcs hm).bytes

/-- 'append(s, ..)' within the capacity, inside a region whose order is drawn -/
theorem step_app_fits {P : Program} (w : World) {ops : Array Oper} {o : Oper} {a : Act} {K : Act → World → Prop} {Q : Exit → Act → World → Prop} {Z : Prop} (hgd : o.guard = none) (s x : Operand) (t : TypeId)
    (ho : o.op = .call { callee := .builtin .append, args := #[s, x], argTypes := #[t, t] })
    (E : TypeId) (ht : P.underlying t = some (.slice E)) (hi : (P.info? E).map (fun i => (i.zero, i.size, i.bytes)) = some (some (.int .u8 0), 1, 1))
    (base g n cap : Nat) (l : List UInt8) (hs : a.eval s = .slice (some ⟨g, 0, none⟩) n cap) (hown : Own E w base (.slice (some ⟨g, 0, none⟩) n cap) l) (hn : n = l.length) (B : Nat) (ad : Addr) (new : List UInt8) (m c : Nat)
    (hx : a.eval x = .slice (some ad) m c) (hm : m = new.length) (hr : Bytes w B (some ad) new) (hroom : l.length + new.length ≤ cap)
    (h : ∀ w', Own E w' base (.slice (some ⟨g, 0, none⟩) (n + m) cap) (l ++ new) → w.grownBy w' (some g) → K (a.put o.dst (.slice (some ⟨g, 0, none⟩) (n + m) cap)) w') :
    if Region.wanted o (yielded ops a.tmps) = true then Oper.wp P o a w K Q else Z := by
  obtain ⟨i, h1, _, h3, _⟩ := info_parts hi
  subst hm hn
  rw [if_pos (by simp [Region.wanted, hgd])]
  obtain ⟨w', hrun, r1, r2⟩ := run_append_fits (P := P) w base t o.type E i 1 ht h1 h3 g l.length cap (l.map bv) hown ad new.length c (new.map bv) (by simp) (hr.cells rfl) (bs_one new) hroom
  unfold Oper.wp
  simp [execOp, ho, resolve, invoke, builtin, hs, hx, hrun, Result.andThen]
  exact h w' (by unfold Own; rw [List.length_append, List.map_append]; exact r1) r2

theorem below_undrew {a w : World} (h : Below a.drew.heap.size a.drew w) : Below a.heap.size a w := ⟨h.os, h.tape, h.output, h.size, h.block⟩

/-- the k'th text -/
def nthT (ls : List (List UInt8)) (k : Nat) : List UInt8 := ls.getD k []
theorem take_snocT (ls : List (List UInt8)) (k : Nat) (h : k < ls.length) : ls.take (k + 1) = ls.take k ++ [nthT ls k] := by
  unfold nthT
  rw [List.take_succ_eq_append_getElem h]
  simp [List.getD, h]
theorem flat_snoc (ls : List (List UInt8)) (k : Nat) (h : k < ls.length) : (ls.take (k + 1)).flatten = (ls.take k).flatten ++ nthT ls k := by
  rw [take_snocT ls k h]
  simp
theorem flat_take_le (ls : List (List UInt8)) (k : Nat) : (ls.take k).flatten.length ≤ ls.flatten.length := by
  have : ls.flatten = (ls.take k).flatten ++ (ls.drop k).flatten := by rw [← List.flatten_append, List.take_append_drop]
  rw [this, List.length_append]
  omega
/-- the first k texts joined, and how many bytes these are -/
def flat (ls : List (List UInt8)) (k : Nat) : List UInt8 := (ls.take k).flatten
def tot (ls : List (List UInt8)) (k : Nat) : Nat := (flat ls k).length
theorem flat_zero (ls : List (List UInt8)) : flat ls 0 = [] := rfl
theorem flat_all (ls : List (List UInt8)) : flat ls ls.length = ls.flatten := by unfold flat; rw [List.take_length]
theorem flat_next (ls : List (List UInt8)) (k : Nat) (h : k < ls.length) : flat ls (k + 1) = flat ls k ++ nthT ls k := flat_snoc ls k h
theorem tot_next (ls : List (List UInt8)) (k : Nat) (h : k < ls.length) : tot ls (k + 1) = tot ls k + (nthT ls k).length := by unfold tot; rw [flat_next ls k h, List.length_append]
theorem tot_le (ls : List (List UInt8)) (k : Nat) : tot ls k ≤ tot ls ls.length := by unfold tot; rw [flat_all]; exact flat_take_le ls k
/-- a slice of texts that came in -/
def Texts (w : World) (B : Nat) (A : Option Addr) (ls : List (List UInt8)) : Prop :=
  0 < ls.length → ∃ b off, A = some ⟨b, off, none⟩ ∧ b < B ∧ ∀ i, i < ls.length →
    ∃ Ai ci, w.cell? ⟨b, off + i, none⟩ = some (.slice Ai (nthT ls i).length ci) ∧ (nthT ls i).length ≤ ci ∧ ci ≤ maxLen ∧ Bytes w B Ai (nthT ls i)
theorem Texts.nil (w : World) (B : Nat) (A : Option Addr) : Texts w B A [] := fun h => absurd h (by simp)
theorem Texts.at_ {w : World} {B : Nat} {A : Option Addr} {ls : List (List UInt8)} (h : Texts w B A ls) {k : Nat} (hk : k < ls.length) :
    ∃ b off Ai ci, A = some ⟨b, off, none⟩ ∧ b < B ∧ w.cell? ⟨b, off + k, none⟩ = some (.slice Ai (nthT ls k).length ci) ∧ (nthT ls k).length ≤ ci ∧ ci ≤ maxLen ∧ Bytes w B Ai (nthT ls k) := by
  obtain ⟨b, off, hA, hb, hc⟩ := h (by omega)
  obtain ⟨Ai, ci, h1, h2, h3, h4⟩ := hc k hk
  exact ⟨b, off, Ai, ci, hA, hb, h1, h2, h3, h4⟩
theorem Texts.below {w w' : World} {B C : Nat} {A : Option Addr} {ls : List (List UInt8)} (h : Texts w B A ls) (hb : Below C w w') (hC : B ≤ C) : Texts w' B A ls := by
  intro hp
  obtain ⟨b, off, hA, hbl, hc⟩ := h hp
  refine ⟨b, off, hA, hbl, fun i hi => ?_⟩
  obtain ⟨Ai, ci, h1, h2, h3, h4⟩ := hc i hi
  exact ⟨Ai, ci, (hb.cell (Nat.lt_of_lt_of_le (show b < B from hbl) hC)).trans h1, h2, h3, h4.below hb hC⟩
theorem Texts.more {w : World} {B B' : Nat} {A : Option Addr} {ls : List (List UInt8)} (h : Texts w B A ls) (hB : B ≤ B') : Texts w B' A ls := by
  intro hp
  obtain ⟨b, off, hA, hbl, hc⟩ := h hp
  refine ⟨b, off, hA, by omega, fun i hi => ?_⟩
  obtain ⟨Ai, ci, h1, h2, h3, h4⟩ := hc i hi
  exact ⟨Ai, ci, h1, h2, h3, h4.more hB⟩
theorem Texts.later {w w' : World} {A : Option Addr} {ls : List (List UInt8)} (h : Texts w w.heap.size A ls) (hb : Below w.heap.size w w') : Texts w' w'.heap.size A ls :=
  (h.below hb (Nat.le_refl _)).more hb.size

theorem below_of_eq {a b : World} (h : a = b) : Below a.heap.size a b := h ▸ Below.refl _ _
theorem lit_bytes_at (E : TypeId) (w : World) (g : Nat) (hg : g = w.heap.size) (l : List UInt8) (cs : Array Value) (hcs : cs = (l.map bv).toArray) (hm : l.length ≤ maxLen) : Bytes (w.alloc (.cells cs E)) (w.alloc (.cells cs E)).heap.size (some ⟨g, 0, none⟩) l := by
  subst hg
  exact lit_bytes E w l cs hcs hm
/-- one text in a list of texts -/
def IsText (w : World) (v : Value) (l : List UInt8) : Prop := ∃ A c, v = .slice A l.length c ∧ l.length ≤ c ∧ c ≤ maxLen ∧ Bytes w w.heap.size A l
theorem IsText.nil (w : World) : IsText w (.slice none 0 0) [] := ⟨none, 0, rfl, Nat.le_refl _, Nat.zero_le _, Bytes.nil _ _ _⟩
theorem Own.text {E : TypeId} {w : World} {base : Nat} {v : Value} {l : List UInt8} (h : Own E w base v l) : IsText w v l := by
  obtain ⟨A, c, rfl, h1, h2, _⟩ := h.shape
  exact ⟨A, c, rfl, h1, h2, h.bytes⟩
theorem IsText.later {w w' : World} {v : Value} {l : List UInt8} (h : IsText w v l) (hb : Below w.heap.size w w') : IsText w' v l := by
  obtain ⟨A, c, h0, h1, h2, h3⟩ := h
  exact ⟨A, c, h0, h1, h2, h3.later hb⟩
theorem lit_text (E : TypeId) (w : World) (l : List UInt8) (cs : Array Value) (hcs : cs = (l.map bv).toArray) (hm : l.length ≤ maxLen) {n : Nat} (hn : n = l.length) : IsText (w.alloc (.cells cs E)) (.slice (some ⟨w.heap.size, 0, none⟩) n n) l := by
  subst hn
  exact ⟨_, _, rfl, Nat.le_refl _, hm, lit_bytes E w l cs hcs hm⟩
/-- a literal of texts -/
theorem texts_lit (E : TypeId) (w : World) (g : Nat) (hg : g = w.heap.size) (ls : List (List UInt8)) (vs : List Value) (h : ∀ i, i < ls.length → ∃ v, vs[i]? = some v ∧ IsText w v (nthT ls i)) (cs : Array Value) (hcs : cs = vs.toArray) :
    Texts (w.alloc (.cells cs E)) (w.alloc (.cells cs E)).heap.size (some ⟨g, 0, none⟩) ls := by
  subst hg hcs
  intro hp
  refine ⟨w.heap.size, 0, rfl, by simp, fun i hi => ?_⟩
  obtain ⟨v, hv, A, c, rfl, h1, h2, h3⟩ := h i hi
  refine ⟨A, c, ?_, h1, h2, h3.later (below_alloc (Below.refl _ _) _)⟩
  rw [Nat.zero_add, cell_of_row _ w.heap.size i vs.toArray E (0, 0) (heap_alloc_new w _)]
  simpa using hv
theorem texts2 (E : TypeId) (w : World) (g : Nat) (hg : g = w.heap.size) {l1 l2 : List UInt8} {v1 v2 : Value} (h1 : IsText w v1 l1) (h2 : IsText w v2 l2) :
    Texts (w.alloc (.cells #[v1, v2] E)) (w.alloc (.cells #[v1, v2] E)).heap.size (some ⟨g, 0, none⟩) [l1, l2] :=
  texts_lit E w g hg [l1, l2] [v1, v2] (fun i hi => by
    match i, hi with
    | 0, _ => exact ⟨v1, rfl, h1⟩
    | 1, _ => exact ⟨v2, rfl, h2⟩
    | n + 2, hi => simp only [List.length_cons, List.length_nil] at hi; omega) _ rfl
theorem texts1 (E : TypeId) (w : World) (g : Nat) (hg : g = w.heap.size) {l1 : List UInt8} {v1 : Value} (h1 : IsText w v1 l1) :
    Texts (w.alloc (.cells #[v1] E)) (w.alloc (.cells #[v1] E)).heap.size (some ⟨g, 0, none⟩) [l1] :=
  texts_lit E w g hg [l1] [v1] (fun i hi => by
    match i, hi with
    | 0, _ => exact ⟨v1, rfl, h1⟩
    | n + 1, hi => simp only [List.length_cons, List.length_nil] at hi; omega) _ rfl
theorem texts3 (E : TypeId) (w : World) (g : Nat) (hg : g = w.heap.size) {l1 l2 l3 : List UInt8} {v1 v2 v3 : Value} (h1 : IsText w v1 l1) (h2 : IsText w v2 l2) (h3 : IsText w v3 l3) :
    Texts (w.alloc (.cells #[v1, v2, v3] E)) (w.alloc (.cells #[v1, v2, v3] E)).heap.size (some ⟨g, 0, none⟩) [l1, l2, l3] :=
  texts_lit E w g hg [l1, l2, l3] [v1, v2, v3] (fun i hi => by
    match i, hi with
    | 0, _ => exact ⟨v1, rfl, h1⟩
    | 1, _ => exact ⟨v2, rfl, h2⟩
    | 2, _ => exact ⟨v3, rfl, h3⟩
    | n + 3, hi => simp only [List.length_cons, List.length_nil] at hi; omega) _ rfl

theorem below_trans2 {B C : Nat} {a b c : World} (h : Below B a b) (k : Below C b c) (hC : B ≤ C) : Below B a c := h.trans (k.mono hC)

#print axioms open_bytes
#print axioms wpList_app
#print axioms wpList_app_lit
end Go.Proofs.Ytogijioehdaefaa.Mem
