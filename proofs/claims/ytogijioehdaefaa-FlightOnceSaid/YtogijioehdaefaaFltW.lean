
/- Layer 16 (flight): words for slices of frames that stand in memory, at whatever place of a row; append onto them. -/
import Derived.Test.YtogijioehdaefaaFltM
import Derived.Deep.AppendSrc
import Derived.Deep.MidRow
import Derived.Deep.Upon
namespace Go.Proofs.Ytogijioehdaefaa.Flt
open Go.RowKit Go.Proofs.Ytogijioehdaefaa.Mem Go.Proofs.Ytogijioehdaefaa.Oct Go.Proofs.Ytogijioehdaefaa.Pkt Go.Proofs.Ytogijioehdaefaa.Def

theorem infoFrame : (Try.prog.info? 40).map (fun i => (i.zero, i.size, i.bytes)) = some (some (.agg #[.int .i64 0, .slice none 0 0, .slice none 0 0]), 3, 56) := by kernel_rfl
theorem frame_parts : ∃ i, Try.prog.info? 40 = some i ∧ i.zero = some (.agg #[.int .i64 0, .slice none 0 0, .slice none 0 0]) ∧ i.size = 3 ∧ i.bytes = 56 := by
  have h := infoFrame
  cases hi : Try.prog.info? 40 with
  | none => rw [hi] at h; simp at h
  | some i =>
    rw [hi] at h
    simp only [Option.map_some, Option.some.injEq, Prod.mk.injEq] at h
    exact ⟨i, rfl, h.1, h.2.1, h.2.2⟩

/-- n elements of three cells each, ys, at whatever place of a row; what lies behind up to the capacity may be written -/
structure RowAt (w : World) (A : Option Addr) (n cap : Nat) (ys : List Value) : Prop where
  len : ys.length = n * 3
  le : n ≤ cap
  max : cap ≤ maxLen
  blk : ∀ a, A = some a → a.block < w.heap.size
  cells : 0 < cap → ∃ g off, A = some ⟨g, off, none⟩ ∧ (∀ j, j < cap * 3 → (w.cell? ⟨g, off + j, none⟩).isSome = true ∧ w.frozen? ⟨g, off + j, none⟩ = false) ∧ ∀ j u, ys[j]? = some u → w.cell? ⟨g, off + j, none⟩ = some u
theorem RowAt.nil (w : World) : RowAt w none 0 0 [] := ⟨rfl, Nat.le_refl _, Nat.zero_le _, fun _ h => (by cases h), fun h => absurd h (Nat.lt_irrefl _)⟩
section
variable {w w' : World} {A : Option Addr} {n cap : Nat} {ys : List Value}
theorem RowAt.chg {q : Nat → Prop} (h : RowAt w A n cap ys) (hk : Chg q w w') (hq : ∀ a, A = some a → ¬ q a.block) : RowAt w' A n cap ys := by
  refine ⟨h.len, h.le, h.max, fun a ha => Nat.lt_of_lt_of_le (h.blk a ha) hk.size, fun hp => ?_⟩
  obtain ⟨g, off, rfl, h1, h2⟩ := h.cells hp
  have hb := h.blk _ rfl
  have hn := hq _ rfl
  refine ⟨g, off, rfl, fun j hj => ?_, fun j u hu => ?_⟩
  · rw [hk.cell (p := ⟨g, off + j, none⟩) hb hn, hk.frozen (p := ⟨g, off + j, none⟩) hb hn]
    exact h1 j hj
  · rw [hk.cell (p := ⟨g, off + j, none⟩) hb hn]
    exact h2 j u hu
theorem RowAt.at_ (h : RowAt w A n cap ys) {i : Nat} (hi : i < n) : ∃ g off, A = some ⟨g, off, none⟩ ∧ g < w.heap.size ∧
    w.cell? ⟨g, off + i * 3, none⟩ = ys[i * 3]? ∧ w.cell? ⟨g, off + i * 3 + 1, none⟩ = ys[i * 3 + 1]? ∧ w.cell? ⟨g, off + i * 3 + 2, none⟩ = ys[i * 3 + 2]? ∧
    (∀ k, k < 3 → w.frozen? ⟨g, off + i * 3 + k, none⟩ = false) := by
  have hle := h.le
  obtain ⟨g, off, rfl, h1, h2⟩ := h.cells (by omega)
  have hl := h.len
  have key : ∀ j, j < ys.length → w.cell? ⟨g, off + j, none⟩ = ys[j]? := fun j hj => by
    rw [h2 j _ (List.getElem?_eq_getElem hj), List.getElem?_eq_getElem hj]
  refine ⟨g, off, rfl, h.blk _ rfl, key _ (by omega), ?_, ?_, fun k hk => ?_⟩
  · rw [Nat.add_assoc]; exact key _ (by omega)
  · rw [Nat.add_assoc]; exact key _ (by omega)
  · rw [Nat.add_assoc]; exact (h1 _ (by omega)).2
/-- 's[k:]' -/
theorem RowAt.drop (h : RowAt w A n cap ys) {k : Nat} (hk : k ≤ n) : RowAt w (if cap = k then A else A.map (fun a => a.add (k * 3))) (n - k) (cap - k) (ys.drop (k * 3)) := by
  have hl := h.len
  have hle := h.le
  have hm := h.max
  refine ⟨by rw [List.length_drop, hl, Nat.sub_mul], by omega, by omega, fun a ha => ?_, fun hp => ?_⟩
  · split at ha
    · exact h.blk a ha
    · cases A with
      | none => simp at ha
      | some a' =>
        simp only [Option.map_some, Option.some.injEq] at ha
        subst ha
        have := h.blk a' rfl
        unfold Addr.add
        split <;> exact this
  · rw [if_neg (by omega)]
    obtain ⟨g, off, rfl, h1, h2⟩ := h.cells (by omega)
    refine ⟨g, off + k * 3, by simp [Addr.add_lit], fun j hj => ?_, fun j u hu => ?_⟩
    · rw [Nat.add_assoc]
      exact h1 _ (by rw [Nat.sub_mul] at hj; omega)
    · rw [Nat.add_assoc]
      rw [List.getElem?_drop] at hu
      exact h2 _ u hu
/-- 's[:k:k]' -/
theorem RowAt.take (h : RowAt w A n cap ys) {k : Nat} (hk : k ≤ n) : RowAt w A k k (ys.take (k * 3)) := by
  have hl := h.len
  have hle := h.le
  have hm := h.max
  refine ⟨by rw [List.length_take, hl]; omega, Nat.le_refl _, by omega, h.blk, fun hp => ?_⟩
  obtain ⟨g, off, rfl, h1, h2⟩ := h.cells (by omega)
  refine ⟨g, off, rfl, fun j hj => h1 j (by omega), fun j u hu => h2 j u ?_⟩
  rw [List.getElem?_take] at hu
  split at hu
  · exact hu
  · cases hu
/-- a store into an element -/
theorem RowAt.set {g off j : Nat} (h : RowAt w (some ⟨g, off, none⟩) n cap ys) (hj : j < n * 3) (u : Value) : RowAt (w.setCell ⟨g, off + j, none⟩ u) (some ⟨g, off, none⟩) n cap (ys.set j u) := by
  have hl := h.len
  have hle := h.le
  refine ⟨by rw [List.length_set]; exact hl, h.le, h.max, fun a ha => by simpa [World.setCell] using h.blk a ha, fun hp => ?_⟩
  obtain ⟨g', off', e, h1, h2⟩ := h.cells hp
  simp only [Option.some.injEq, Addr.mk.injEq, and_true] at e
  obtain ⟨rfl, rfl⟩ := e
  obtain ⟨x, hx⟩ := Option.isSome_iff_exists.1 (h1 j (by omega)).1
  refine ⟨g, off, rfl, fun k hk => ?_, fun k y hy => ?_⟩
  · obtain ⟨a1, a2⟩ := h1 k hk
    refine ⟨?_, by rw [← a2]; simp [go_sem]⟩
    by_cases e : k = j
    · subst e; simp [go_sem, hx]
    · rw [set_other (by omega)]; exact a1
  · rw [List.getElem?_set] at hy
    split at hy
    · rename_i e
      subst e
      split at hy
      · injection hy with hy
        subst hy
        exact set_self hx
      · cases hy
    · rename_i e
      rw [set_other (by omega)]
      exact h2 k y hy
end

theorem setCells_size (g : Nat) : ∀ (vs : List Value) (o : Nat) (w : World), (w.setCells g o vs).heap.size = w.heap.size
  | [], _, _ => rfl
  | v :: vs, o, w => by
    show ((w.setCell ⟨g, o, none⟩ v).setCells g (o + 1) vs).heap.size = _
    rw [setCells_size g vs]
    simp [World.setCell]
theorem setCells_tape (g : Nat) : ∀ (vs : List Value) (o : Nat) (w : World), (w.setCells g o vs).tape = w.tape
  | [], _, _ => rfl
  | v :: vs, o, w => by
    show ((w.setCell ⟨g, o, none⟩ v).setCells g (o + 1) vs).tape = _
    rw [setCells_tape g vs]
    rfl
theorem grown_setCells (w : World) (g o : Nat) (vs : List Value) : w.grownBy (w.setCells g o vs) (some g) :=
  ⟨World.os_setCells w g o vs, setCells_tape g vs o w, World.output_setCells w g o vs, by rw [setCells_size]; exact Nat.le_refl _, fun k hk hne => World.heap_setCells_other w g o vs hk (fun e => hne (by rw [e]))⟩

/-- where the appended slice lies: where it lay, or in a new block -/
def LiesA (w : World) (A A' : Option Addr) : Prop := A' = A ∨ ∃ a, A' = some a ∧ w.heap.size ≤ a.block
/-- 'append(s, xs...)' -/
theorem run_app_row (w : World) (ty : TypeId) {A : Option Addr} {n cap : Nat} {ys : List Value} (h : RowAt w A n cap ys) (ad : Addr) (m c : Nat) (news : List Value) (hl : news.length = m * 3)
    (hnews : ∀ j u, news[j]? = some u → w.cell? (ad.add j) = some u) (h1 : ∀ u ∈ news, u.oneCell' = true) (hm : n + m ≤ 1000000) :
    ∃ A' cap' w', (Builtin.append_ #[57, 57] ty #[.slice A n cap, .slice (some ad) m c]).run Try.prog w = .ok (.slice A' (n + m) cap') w' ∧ RowAt w' A' (n + m) cap' (ys ++ news) ∧
      w.grownBy w' (Value.ownBlock (.slice A n cap)) ∧ LiesA w A A' ∧ (cap < n + m → w.grownBy w' none) := by
  obtain ⟨i, e1, e2, e3, e4⟩ := frame_parts
  have hle := h.le
  have hlen := h.len
  have fresh : ∀ (v' : Value) (w' : World), w'.ownsRow w.heap.size 40 3 v' (n + m) (ys ++ news) → 0 < n + m → ∃ A' cap', v' = .slice A' (n + m) cap' ∧ RowAt w' A' (n + m) cap' (ys ++ news) ∧ ∃ a, A' = some a ∧ w.heap.size ≤ a.block := by
    intro v' w' ho hp
    rcases ho.2 with ⟨_, h0⟩ | ⟨g, cap', cur, rfl, hb, hg, hn, hmx, hcs, htk⟩
    · omega
    · have hlt : g < w'.heap.size := (Array.getElem?_eq_some_iff.1 hg).1
      refine ⟨_, cap', rfl, ⟨ho.1, hn, hmx, fun a ha => by cases ha; exact hlt, fun _ => ⟨g, 0, rfl, fun j hj => ⟨?_, ?_⟩, fun j u hu => ?_⟩⟩, _, rfl, hb⟩
      · rw [Nat.zero_add, cell_of_row w' g j cur _ (0, 0) hg, Array.getElem?_eq_getElem (by omega)]
        rfl
      · simp [World.frozen?, hg]
      · rw [Nat.zero_add, cell_of_row w' g j cur _ (0, 0) hg]
        have hj : j < (n + m) * 3 := by rw [← ho.1]; exact (List.getElem?_eq_some_iff.1 hu).1
        rw [← htk, List.getElem?_take, if_pos hj] at hu
        simpa using hu
  by_cases hroom : n + m ≤ cap
  · by_cases hc0 : cap = 0
    · obtain rfl : n = 0 := by omega
      obtain rfl : m = 0 := by omega
      subst hc0
      have hn : news = [] := List.eq_nil_of_length_eq_zero (by simpa using hl)
      have hy : ys = [] := List.eq_nil_of_length_eq_zero (by simpa using hlen)
      subst hn hy
      refine ⟨A, 0, w, ?_, by simpa using h, ⟨rfl, rfl, rfl, Nat.le_refl _, fun _ _ _ => rfl⟩, .inl rfl, fun hh => absurd hh (by omega)⟩
      cases A <;> simp [Builtin.append_, run_underlying Try.underlying57, sizeOf, typeInfo, e1, Builtin.lenOf, Builtin.firstCells, loadCells, loadCellsFrom, storeCells]
    · obtain ⟨g, off, rfl, h2, h3⟩ := h.cells (by omega)
      have hs : Src Try.prog i.size 57 (.slice (some ad) m c) m news w := by
        rw [e3]
        exact Src.ofSlice (P := Try.prog) w (e' := 40) Try.underlying57 ad m c news hl hnews h1
      have hcj : ∀ j, j < news.length → (w.cell? ⟨g, off + n * 3 + j, none⟩).isSome = true := fun j hj => by rw [Nat.add_assoc]; exact (h2 _ (by omega)).1
      have hr := run_append_room_src (P := Try.prog) w 57 57 ty 40 i Try.underlying57 e1 g off n cap (.slice (some ad) m c) m news hs hroom
        (by rw [e3]; exact hcj) (by intro j hj; rw [e3, Nat.add_assoc]; exact (h2 _ (by omega)).2)
      rw [e3] at hr
      refine ⟨_, _, _, hr, ⟨by rw [List.length_append, hlen, hl, Nat.add_mul], hroom, h.max, fun a ha => by rw [setCells_size]; exact h.blk a ha, fun _ => ⟨g, off, rfl, fun j hj => ⟨?_, ?_⟩, fun j u hu => ?_⟩⟩, grown_setCells _ _ _ _, .inl rfl, fun hh => absurd hh (by omega)⟩
      · exact World.isSome_setCells g news _ w _ (h2 j hj).1
      · rw [World.frozen?_setCells]
        exact (h2 j hj).2
      · rw [List.getElem?_append] at hu
        split at hu
        · rename_i hj
          rw [World.cell?_setCells_out g news _ w _ (fun _ _ => .inl (by simp only; omega))]
          exact h3 j u hu
        · rename_i hj
          have hjn : j - ys.length < news.length := (List.getElem?_eq_some_iff.1 hu).1
          have := World.cell?_setCells_in g news (off + n * 3) w hcj (j - ys.length) hjn
          rw [show off + n * 3 + (j - ys.length) = off + j by omega] at this
          rw [this, ← hu, List.getElem?_eq_getElem hjn]
  · rcases A with _ | b
    · have hc0 : cap = 0 := by
        rcases Nat.eq_zero_or_pos cap with h0 | h0
        · exact h0
        · obtain ⟨_, _, e, _⟩ := h.cells h0
          cases e
      subst hc0
      obtain rfl : n = 0 := by omega
      have hy : ys = [] := List.eq_nil_of_length_eq_zero (by simpa using hlen)
      subst hy
      obtain ⟨v', w', r1, r2, r3, _⟩ := run_append_own (P := Try.prog) w w.heap.size 57 ty 40 i _ 3 56 Try.underlying57 e1 e2 e3 e4 rfl (by decide) (.slice none 0 0) 0 [] (World.ownsRow_nil _ _ _ _) ad m c news hl hnews h1 (by unfold maxLen; omega) (by omega) (Nat.le_refl _)
      obtain ⟨A', cap', rfl, k1, k2⟩ := fresh v' w' r2 (by omega)
      exact ⟨A', cap', w', r1, k1, r3, .inr k2, fun _ => r3⟩
    · have hold : ∀ j u, ys[j]? = some u → w.cell? (b.add j) = some u := by
        intro j u hu
        have hj : j < ys.length := (List.getElem?_eq_some_iff.1 hu).1
        obtain ⟨g, off, e, _, h3⟩ := h.cells (by omega)
        injection e with e
        subst e
        rw [Addr.add_lit]
        exact h3 j u hu
      obtain ⟨v', w', r1, r2, r3⟩ := run_append_arg_grows (P := Try.prog) w 57 ty 40 i _ 3 56 Try.underlying57 e1 e2 e3 e4 rfl (by decide) b n cap ys hlen hold ad m c news hl hnews (by omega) (by unfold maxLen; omega) (by omega)
      obtain ⟨A', cap', rfl, k1, k2⟩ := fresh v' w' r2 (by omega)
      exact ⟨A', cap', w', r1, k1, ⟨r3.os, r3.tape, r3.output, r3.size, fun k hk _ => r3.block k hk (by simp)⟩, .inr k2, fun _ => r3⟩

/-- the same, as a step of a region that draws -/
theorem step_app_row (w : World) {ops : Array Oper} {o : Oper} {a : Act} {K : Act → World → Prop} {Q : Exit → Act → World → Prop} {Z : Prop} (hgd : o.guard = none) (s x : Operand)
    (ho : o.op = .call { callee := .builtin .append, args := #[s, x], argTypes := #[57, 57] })
    {A : Option Addr} {n cap : Nat} {ys : List Value} (hs : a.eval s = .slice A n cap) (h : RowAt w A n cap ys) (ad : Addr) (m c : Nat) (news : List Value) (hx : a.eval x = .slice (some ad) m c) (hl : news.length = m * 3)
    (hnews : ∀ j u, news[j]? = some u → w.cell? (ad.add j) = some u) (h1 : ∀ u ∈ news, u.oneCell' = true) (hm : n + m ≤ 1000000)
    (hK : ∀ A' cap' w', RowAt w' A' (n + m) cap' (ys ++ news) → w.grownBy w' (Value.ownBlock (.slice A n cap)) → LiesA w A A' → (cap < n + m → w.grownBy w' none) → K (a.put o.dst (.slice A' (n + m) cap')) w') :
    if Region.wanted o (yielded ops a.tmps) = true then Oper.wp Try.prog o a w K Q else Z := by
  rw [if_pos (by simp [Region.wanted, hgd])]
  obtain ⟨A', cap', w', hrun, r1, r2, r3, r4⟩ := run_app_row w o.type h ad m c news hl hnews h1 hm
  unfold Oper.wp
  simp [execOp, ho, resolve, invoke, builtin, hs, hx, hrun, Result.andThen]
  exact hK A' cap' w' r1 r2 r3 r4
theorem wpList_app_row (w : World) {ops : Array Oper} {rest : List Oper} {o : Oper} {a : Act} {Q : Exit → Act → World → Prop} (hgd : o.guard = none) (s x : Operand)
    (ho : o.op = .call { callee := .builtin .append, args := #[s, x], argTypes := #[57, 57] })
    {A : Option Addr} {n cap : Nat} {ys : List Value} (hs : a.eval s = .slice A n cap) (h : RowAt w A n cap ys) (ad : Addr) (m c : Nat) (news : List Value) (hx : a.eval x = .slice (some ad) m c) (hl : news.length = m * 3)
    (hnews : ∀ j u, news[j]? = some u → w.cell? (ad.add j) = some u) (h1 : ∀ u ∈ news, u.oneCell' = true) (hm : n + m ≤ 1000000)
    (hK : ∀ A' cap' w', RowAt w' A' (n + m) cap' (ys ++ news) → w.grownBy w' (Value.ownBlock (.slice A n cap)) → LiesA w A A' → (cap < n + m → w.grownBy w' none) → wpList Try.prog ops Q rest (a.put o.dst (.slice A' (n + m) cap')) w') :
    wpList Try.prog ops Q (o :: rest) a w := by
  refine wpList_plain hgd fun _ hK' => ?_
  obtain ⟨A', cap', w', hrun, r1, r2, r3, r4⟩ := run_app_row w o.type h ad m c news hl hnews h1 hm
  unfold Oper.wp
  simp [execOp, ho, resolve, invoke, builtin, hs, hx, hrun, Result.andThen]
  exact hK' _ _ (hK A' cap' w' r1 r2 r3 r4)
end Go.Proofs.Ytogijioehdaefaa.Flt
