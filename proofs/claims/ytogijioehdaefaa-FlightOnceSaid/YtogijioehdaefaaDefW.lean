
/- Layer 5 (deframe): words for a scanner that stands in memory and for what it has found. -/
import Derived.Test.YtogijioehdaefaaFrmB
import Derived.Test.YtogijioehdaefaaDefM
namespace Go.Proofs.Ytogijioehdaefaa.Def
open Go.RowKit Go.Proofs.Ytogijioehdaefaa.Mem Go.Proofs.Ytogijioehdaefaa.Oct Go.Proofs.Ytogijioehdaefaa.Pkt Go.Proofs.Ytogijioehdaefaa.DefM

/-- what is not q stands as it was -/
structure Chg (q : Nat → Prop) (w w' : World) : Prop where
  os : w'.os = w.os
  tape : w'.tape = w.tape
  output : w'.output = w.output
  size : w.heap.size ≤ w'.heap.size
  block : ∀ k, k < w.heap.size → ¬ q k → w'.heap[k]? = w.heap[k]?
theorem Chg.refl (q : Nat → Prop) (w : World) : Chg q w w := ⟨rfl, rfl, rfl, Nat.le_refl _, fun _ _ _ => rfl⟩
theorem Chg.trans {q : Nat → Prop} {a b c : World} (h : Chg q a b) (k : Chg q b c) : Chg q a c :=
  ⟨k.os.trans h.os, k.tape.trans h.tape, k.output.trans h.output, Nat.le_trans h.size k.size, fun i hi hq => (k.block i (Nat.lt_of_lt_of_le hi h.size) hq).trans (h.block i hi hq)⟩
/-- one change more: it may touch what is new -/
theorem Chg.more {q r : Nat → Prop} {a b c : World} (h : Chg q a b) (k : Chg r b c) (hr : ∀ g, g < a.heap.size → r g → q g) : Chg q a c :=
  ⟨k.os.trans h.os, k.tape.trans h.tape, k.output.trans h.output, Nat.le_trans h.size k.size, fun i hi hq => (k.block i (Nat.lt_of_lt_of_le hi h.size) fun hr' => hq (hr i hi hr')).trans (h.block i hi hq)⟩
theorem Chg.mono {q r : Nat → Prop} {a b : World} (h : Chg q a b) (hr : ∀ g, q g → r g) : Chg r a b :=
  ⟨h.os, h.tape, h.output, h.size, fun i hi hq => h.block i hi fun hr' => hq (hr i hr')⟩
theorem chg_below {w w' : World} (h : Below w.heap.size w w') : Chg (fun _ => False) w w' := ⟨h.os, h.tape, h.output, h.size, fun i hi _ => h.block i hi⟩
theorem chg_grown {w w' : World} {row : Option Nat} (h : w.grownBy w' row) : Chg (fun k => some k = row) w w' := ⟨h.os, h.tape, h.output, h.size, fun i hi hn => h.block i hi hn⟩
theorem chg_set (w : World) (p : Addr) (u : Value) : Chg (fun k => k = p.block) w (w.setCell p u) := ⟨rfl, rfl, rfl, by simp [World.setCell], fun _ _ hn => Below.heap_setCell _ _ _ _ hn⟩
theorem chg_alloc (w : World) (o : Obj) : Chg (fun _ => False) w (w.alloc o) := chg_below (below_alloc (Below.refl _ _) _)
theorem Chg.below {q : Nat → Prop} {B : Nat} {a b c : World} (h : Below B a b) (k : Chg q b c) (hB : B ≤ b.heap.size) (hq : ∀ g, q g → B ≤ g) : Below B a c :=
  ⟨k.os.trans h.os, k.tape.trans h.tape, k.output.trans h.output, Nat.le_trans h.size k.size, fun i hi => (k.block i (by omega) fun hr => by have := hq i hr; omega).trans (h.block i hi)⟩
theorem Chg.cell {q : Nat → Prop} {w w' : World} (h : Chg q w w') {p : Addr} (hp : p.block < w.heap.size) (hq : ¬ q p.block) : w'.cell? p = w.cell? p := World.cell?_of_block (w := w) (h.block p.block hp hq)
theorem Chg.frozen {q : Nat → Prop} {w w' : World} (h : Chg q w w') {p : Addr} (hp : p.block < w.heap.size) (hq : ¬ q p.block) : w'.frozen? p = w.frozen? p := World.frozen?_of_block (w := w) (h.block p.block hp hq)

/-- bytes that stand in blocks that p allows -/
def RestAt (p : Nat → Prop) (w : World) (A : Option Addr) (l : List UInt8) : Prop :=
  0 < l.length → ∃ b off, A = some ⟨b, off, none⟩ ∧ b < w.heap.size ∧ p b ∧ ∀ i, i < l.length → w.cell? ⟨b, off + i, none⟩ = some (.int .u8 (byteAt l i))
theorem RestAt.bytes {p : Nat → Prop} {w : World} {A : Option Addr} {l : List UInt8} (h : RestAt p w A l) : Bytes w w.heap.size A l := by
  intro hl
  obtain ⟨b, off, h1, h2, _, h3⟩ := h hl
  exact ⟨b, off, h1, h2, h3⟩
theorem RestAt.chg {p q : Nat → Prop} {w w' : World} {A : Option Addr} {l : List UInt8} (h : RestAt p w A l) (hk : Chg q w w') (hq : ∀ g, g < w.heap.size → p g → ¬ q g) : RestAt p w' A l := by
  intro hl
  obtain ⟨b, off, h1, h2, hp, h3⟩ := h hl
  exact ⟨b, off, h1, Nat.lt_of_lt_of_le h2 hk.size, hp, fun i hi => (hk.cell (p := ⟨b, off + i, none⟩) h2 (hq b h2 hp)).trans (h3 i hi)⟩
theorem RestAt.mono {p q : Nat → Prop} {w : World} {A : Option Addr} {l : List UInt8} (h : RestAt p w A l) (hq : ∀ g, g < w.heap.size → p g → q g) : RestAt q w A l := by
  intro hl
  obtain ⟨b, off, h1, h2, hp, h3⟩ := h hl
  exact ⟨b, off, h1, h2, hq b h2 hp, h3⟩
theorem RestAt.own {p : Nat → Prop} {w : World} {base : Nat} {A : Option Addr} {n k : Nat} {l : List UInt8} (h : Own 5 w base (.slice A n k) l) (hp : ∀ b, base ≤ b → b < w.heap.size → p b) : RestAt p w A l := by
  intro hl
  obtain ⟨b, off, h1, h2, h3⟩ := h.bytes hl
  refine ⟨b, off, h1, h2, ?_, h3⟩
  rcases h.2 with h0 | ⟨g, cap, cur, h0, hbg, hg, r⟩
  · rw [h1] at h0
    exact absurd h0.1 (by simp)
  · rw [h1] at h0
    cases h0
    exact hp _ hbg h2
theorem RestAt.of_bytes {p : Nat → Prop} {w : World} {B : Nat} {A : Option Addr} {l : List UInt8} (h : Bytes w B A l) (hB : B ≤ w.heap.size) (hp : ∀ b, b < B → p b) : RestAt p w A l := by
  intro hl
  obtain ⟨b, off, h1, h2, h3⟩ := h hl
  exact ⟨b, off, h1, by omega, hp b h2, h3⟩
/-- a text in blocks that p allows -/
def TextP (p : Nat → Prop) (w : World) (v : Value) (l : List UInt8) : Prop := ∃ A c, v = .slice A l.length c ∧ l.length ≤ c ∧ c ≤ maxLen ∧ RestAt p w A l
theorem TextP.chg {p q r : Nat → Prop} {w w' : World} {v : Value} {l : List UInt8} (h : TextP p w v l) (hk : Chg q w w') (hq : ∀ g, g < w.heap.size → p g → ¬ q g) (hr : ∀ g, g < w.heap.size → p g → r g) : TextP r w' v l := by
  obtain ⟨A, c, h1, h2, h3, h4⟩ := h
  exact ⟨A, c, h1, h2, h3, (h4.mono (q := fun g => p g ∧ r g) fun g hg hp => ⟨hp, hr g hg hp⟩).chg hk (fun g hg hp => hq g hg hp.1) |>.mono fun _ _ hp => hp.2⟩
theorem TextP.own {p : Nat → Prop} {w : World} {base : Nat} {v : Value} {l : List UInt8} (h : Own 5 w base v l) (hp : ∀ b, base ≤ b → b < w.heap.size → p b) : TextP p w v l := by
  obtain ⟨A, c, rfl, h1, h2, _⟩ := h.shape
  exact ⟨A, c, rfl, h1, h2, RestAt.own h hp⟩
theorem TextP.text {p : Nat → Prop} {w : World} {v : Value} {l : List UInt8} (h : TextP p w v l) : IsText w v l := by
  obtain ⟨A, c, rfl, h1, h2, h3⟩ := h
  exact ⟨A, c, rfl, h1, h2, h3.bytes⟩

theorem Own.chg {q : Nat → Prop} {E : TypeId} {w w' : World} {base : Nat} {v : Value} {l : List UInt8} (h : Own E w base v l) (hk : Chg q w w') (hq : ∀ g, v.ownBlock = some g → ¬ q g) : Own E w' base v l := by
  refine ⟨h.1, ?_⟩
  have hlt := h.lt
  rcases h.2 with h0 | ⟨g, cap, cur, rfl, hbg, hg, r⟩
  · exact .inl h0
  · exact .inr ⟨g, cap, cur, rfl, hbg, (hk.block g (hlt g rfl).2 (hq g rfl)).trans hg, r⟩
theorem OwnV.chg {q : Nat → Prop} {E : TypeId} {w w' : World} {base : Nat} {v : Value} {xs : List Value} (h : OwnV E w base v xs) (hk : Chg q w w') (hq : ∀ g, v.ownBlock = some g → ¬ q g) : OwnV E w' base v xs := by
  refine ⟨h.1, ?_⟩
  have hlt := h.lt
  rcases h.2 with h0 | ⟨g, cap, cur, rfl, hbg, hg, r⟩
  · exact .inl h0
  · exact .inr ⟨g, cap, cur, rfl, hbg, (hk.block g (hlt g rfl).2 (hq g rfl)).trans hg, r⟩

theorem tab_chg {q : Nat → Prop} {w w' : World} {tb : Nat} (h : Crc.Tab w tb) (hk : Chg q w w') (hb : tb < w.heap.size) (hq : ¬ q tb) : Crc.Tab w' tb :=
  ⟨(hk.cell (p := ⟨tb, 0, none⟩) hb hq).trans h.made, fun j hj => (hk.cell (p := ⟨tb, 1 + j, none⟩) hb hq).trans (h.at_ j hj)⟩
theorem infoS : (Try.prog.info? 33).map (fun i => (i.zero, i.size, i.bytes)) = some (some (.slice none 0 0), 1, 24) := by kernel_rfl
theorem info_getS : ∃ i, Try.prog.info? 33 = some i ∧ i.zero = some (.slice none 0 0) ∧ i.size = 1 ∧ i.bytes = 24 := by
  have h := infoS
  cases hi : Try.prog.info? 33 with
  | none => rw [hi] at h; cases h
  | some i =>
    rw [hi] at h
    simp only [Option.map_some, Option.some.injEq, Prod.mk.injEq] at h
    exact ⟨i, rfl, h.1, h.2.1, h.2.2⟩

/-- where an appended slice lies: where it lay, or in a new block -/
def Lies (w : World) (v v' : Value) : Prop := ∀ g, v'.ownBlock = some g → v.ownBlock = some g ∨ w.heap.size ≤ g
theorem lies_of {w : World} {o : Obj} {v v' : Value} (h : v'.ownBlock = v.ownBlock ∨ v'.ownBlock = some (w.alloc o).heap.size) : Lies w v v' := by
  intro g hg
  rcases h with h | h
  · exact .inl (h ▸ hg)
  · right
    rw [h] at hg
    injection hg with hg
    simp at hg
    omega
/-- 'append(out, x)': x lies in the block that was laid for it just before -/
theorem wpList_app_txt (w : World) {ops : Array Oper} {rest : List Oper} {o : Oper} {a : Act} {Q : Exit → Act → World → Prop} (hgd : o.guard = none) (s x : Operand)
    (ho : o.op = .call { callee := .builtin .append, args := #[s, x], argTypes := #[50, 50] })
    (base : Nat) (v : Value) (xs : List Value) (hs : a.eval s = v) (hown : OwnV 33 w base v xs) (A : Option Addr) (n k c : Nat) (cs : Array Value) (hcs : cs = #[.slice A n k])
    (hx : a.eval x = .slice (some ⟨w.heap.size, 0, none⟩) 1 c) (hb : base ≤ w.heap.size) (hlen : xs.length ≤ 1000000)
    (h : ∀ v' w', OwnV 33 w' base v' (xs ++ [.slice A n k]) → w.grownBy w' v.ownBlock → Lies w v v' → wpList Try.prog ops Q rest (a.put o.dst v') w') : wpList Try.prog ops Q (o :: rest) a (w.alloc (.cells cs 33)) := by
  obtain ⟨i, h1, h2, h3, h4⟩ := info_getS
  subst hcs
  refine wpList_append_own_at (w.alloc (.cells #[.slice A n k] 33)) hgd s x 50 ho base 33 i _ 1 24 (by kernel_rfl) h1 h2 h3 h4 rfl (by decide) v xs.length xs hs (World.ownsRow.alloc hown _)
    ⟨w.heap.size, 0, none⟩ 1 c [.slice A n k] hx rfl ?_ (by intro u hu; simp only [List.mem_singleton] at hu; subst hu; rfl) (by unfold maxLen; omega) (by omega) (by simp; omega) ?_
  · intro j u hu
    rw [Addr.add_lit, Nat.zero_add]
    rw [cell_of_row _ w.heap.size j #[.slice A n k] 33 (0, 0) (heap_alloc_new w _)]
    simpa using hu
  · intro v' w' ho' hg _ hat
    refine h v' w' (by unfold OwnV; rw [List.length_append]; exact ho') ?_ (lies_of hat)
    have ha := World.grownBy_alloc w (.cells #[.slice A n k] 33) v.ownBlock
    exact ⟨hg.os.trans ha.os, hg.tape.trans ha.tape, hg.output.trans ha.output, Nat.le_trans ha.size hg.size, fun k hk hne => (hg.block k (Nat.lt_of_lt_of_le hk ha.size) hne).trans (ha.block k hk hne)⟩
/-- 'append(s, c)': the byte lies in the block that was laid for it just before -/
theorem wpList_app_byte (w : World) {ops : Array Oper} {rest : List Oper} {o : Oper} {a : Act} {Q : Exit → Act → World → Prop} (hgd : o.guard = none) (s x : Operand)
    (ho : o.op = .call { callee := .builtin .append, args := #[s, x], argTypes := #[33, 33] })
    (base : Nat) (v : Value) (l : List UInt8) (hs : a.eval s = v) (hown : Own 5 w base v l) (b : UInt8) (c : Nat) (cs : Array Value) (hcs : cs = #[bv b])
    (hx : a.eval x = .slice (some ⟨w.heap.size, 0, none⟩) 1 c) (hb : base ≤ w.heap.size) (hlen : l.length ≤ 1000000)
    (h : ∀ v' w', Own 5 w' base v' (l ++ [b]) → w.grownBy w' v.ownBlock → Lies w v v' → wpList Try.prog ops Q rest (a.put o.dst v') w') : wpList Try.prog ops Q (o :: rest) a (w.alloc (.cells cs 5)) := by
  obtain ⟨i, h1, h2, h3, h4⟩ := info_parts infoU8
  subst hcs
  refine wpList_append_own_at (w.alloc (.cells #[bv b] 5)) hgd s x 33 ho base 5 i (.int .u8 0) 1 1 (by kernel_rfl) h1 h2 h3 h4 rfl (by decide) v l.length (l.map bv) hs (World.ownsRow.alloc hown _)
    ⟨w.heap.size, 0, none⟩ 1 c [bv b] hx rfl ?_ (by intro u hu; simp only [List.mem_singleton] at hu; subst hu; rfl) (by unfold maxLen; omega) (by omega) (by simp; omega) ?_
  · intro j u hu
    rw [Addr.add_lit, Nat.zero_add]
    rw [cell_of_row _ w.heap.size j #[bv b] 5 (0, 0) (heap_alloc_new w _)]
    simpa using hu
  · intro v' w' ho' hg _ hat
    refine h v' w' (by unfold Own; rw [List.length_append, List.map_append]; exact ho') ?_ (lies_of hat)
    have ha := World.grownBy_alloc w (.cells #[bv b] 5) v.ownBlock
    exact ⟨hg.os.trans ha.os, hg.tape.trans ha.tape, hg.output.trans ha.output, Nat.le_trans ha.size hg.size, fun k hk hne => (hg.block k (Nat.lt_of_lt_of_le hk ha.size) hne).trans (ha.block k hk hne)⟩

/-- a scanner that stands in block b -/
structure ScanAt (w : World) (b tb : Nat) (v : Value) (S : St) : Prop where
  c0 : w.cell? ⟨b, 0, none⟩ = some (.pointer (some ⟨tb, 0, none⟩))
  c1 : w.cell? ⟨b, 1, none⟩ = some (.int .i64 S.at_)
  c2 : w.cell? ⟨b, 2, none⟩ = some v
  c3 : w.cell? ⟨b, 3, none⟩ = some (.int .i64 S.good)
  c4 : w.cell? ⟨b, 4, none⟩ = some (.int .i64 S.bad)
  c5 : w.cell? ⟨b, 5, none⟩ = some (.int .i64 S.long)
  c6 : w.cell? ⟨b, 6, none⟩ = some (.int .i64 S.noise)
  fz : ∀ i, w.frozen? ⟨b, i, none⟩ = false
theorem ScanAt.chg {q : Nat → Prop} {w w' : World} {b tb : Nat} {v : Value} {S : St} (h : ScanAt w b tb v S) (hb : b < w.heap.size) (hk : Chg q w w') (hq : ¬ q b) : ScanAt w' b tb v S :=
  ⟨(hk.cell (p := ⟨b, 0, none⟩) hb hq).trans h.c0, (hk.cell (p := ⟨b, 1, none⟩) hb hq).trans h.c1, (hk.cell (p := ⟨b, 2, none⟩) hb hq).trans h.c2, (hk.cell (p := ⟨b, 3, none⟩) hb hq).trans h.c3, (hk.cell (p := ⟨b, 4, none⟩) hb hq).trans h.c4,
    (hk.cell (p := ⟨b, 5, none⟩) hb hq).trans h.c5, (hk.cell (p := ⟨b, 6, none⟩) hb hq).trans h.c6, fun i => (hk.frozen (p := ⟨b, i, none⟩) hb hq).trans (h.fz i)⟩
theorem set_self {w : World} {b i : Nat} {u x : Value} (h : w.cell? ⟨b, i, none⟩ = some x) : (w.setCell ⟨b, i, none⟩ u).cell? ⟨b, i, none⟩ = some u := by simp [go_sem, h]
theorem set_other {w : World} {b i j : Nat} {u : Value} (h : j ≠ i) : (w.setCell ⟨b, i, none⟩ u).cell? ⟨b, j, none⟩ = w.cell? ⟨b, j, none⟩ := by simp [go_sem]
theorem set_fz {w : World} {b i j : Nat} {u : Value} : (w.setCell ⟨b, i, none⟩ u).frozen? ⟨b, j, none⟩ = w.frozen? ⟨b, j, none⟩ := by simp [go_sem]
section
variable {w : World} {b tb : Nat} {v : Value} {S : St}
theorem ScanAt.set0 (h : ScanAt w b tb v S) : ScanAt (w.setCell ⟨b, 0, none⟩ (.pointer (some ⟨tb, 0, none⟩))) b tb v S :=
  ⟨set_self h.c0, (set_other (by decide)).trans h.c1, (set_other (by decide)).trans h.c2, (set_other (by decide)).trans h.c3, (set_other (by decide)).trans h.c4, (set_other (by decide)).trans h.c5, (set_other (by decide)).trans h.c6, fun i => set_fz.trans (h.fz i)⟩
theorem ScanAt.set1 (h : ScanAt w b tb v S) (n : Nat) : ScanAt (w.setCell ⟨b, 1, none⟩ (.int .i64 n)) b tb v { S with at_ := n } :=
  ⟨(set_other (by decide)).trans h.c0, set_self h.c1, (set_other (by decide)).trans h.c2, (set_other (by decide)).trans h.c3, (set_other (by decide)).trans h.c4, (set_other (by decide)).trans h.c5, (set_other (by decide)).trans h.c6, fun i => set_fz.trans (h.fz i)⟩
theorem ScanAt.set2 (h : ScanAt w b tb v S) (u : Value) (l : List UInt8) : ScanAt (w.setCell ⟨b, 2, none⟩ u) b tb u { S with stretch := l } :=
  ⟨(set_other (by decide)).trans h.c0, (set_other (by decide)).trans h.c1, set_self h.c2, (set_other (by decide)).trans h.c3, (set_other (by decide)).trans h.c4, (set_other (by decide)).trans h.c5, (set_other (by decide)).trans h.c6, fun i => set_fz.trans (h.fz i)⟩
theorem ScanAt.set3 (h : ScanAt w b tb v S) (n : Nat) : ScanAt (w.setCell ⟨b, 3, none⟩ (.int .i64 n)) b tb v { S with good := n } :=
  ⟨(set_other (by decide)).trans h.c0, (set_other (by decide)).trans h.c1, (set_other (by decide)).trans h.c2, set_self h.c3, (set_other (by decide)).trans h.c4, (set_other (by decide)).trans h.c5, (set_other (by decide)).trans h.c6, fun i => set_fz.trans (h.fz i)⟩
theorem ScanAt.set4 (h : ScanAt w b tb v S) (n : Nat) : ScanAt (w.setCell ⟨b, 4, none⟩ (.int .i64 n)) b tb v { S with bad := n } :=
  ⟨(set_other (by decide)).trans h.c0, (set_other (by decide)).trans h.c1, (set_other (by decide)).trans h.c2, (set_other (by decide)).trans h.c3, set_self h.c4, (set_other (by decide)).trans h.c5, (set_other (by decide)).trans h.c6, fun i => set_fz.trans (h.fz i)⟩
theorem ScanAt.set5 (h : ScanAt w b tb v S) (n : Nat) : ScanAt (w.setCell ⟨b, 5, none⟩ (.int .i64 n)) b tb v { S with long := n } :=
  ⟨(set_other (by decide)).trans h.c0, (set_other (by decide)).trans h.c1, (set_other (by decide)).trans h.c2, (set_other (by decide)).trans h.c3, (set_other (by decide)).trans h.c4, set_self h.c5, (set_other (by decide)).trans h.c6, fun i => set_fz.trans (h.fz i)⟩
theorem ScanAt.set6 (h : ScanAt w b tb v S) (n : Nat) : ScanAt (w.setCell ⟨b, 6, none⟩ (.int .i64 n)) b tb v { S with noise := n } :=
  ⟨(set_other (by decide)).trans h.c0, (set_other (by decide)).trans h.c1, (set_other (by decide)).trans h.c2, (set_other (by decide)).trans h.c3, (set_other (by decide)).trans h.c4, (set_other (by decide)).trans h.c5, set_self h.c6, fun i => set_fz.trans (h.fz i)⟩
end
end Go.Proofs.Ytogijioehdaefaa.Def
