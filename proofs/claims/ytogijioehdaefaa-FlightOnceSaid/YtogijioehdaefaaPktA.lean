
/- Packets: append inside a region that draws. -/
import Derived.Test.YtogijioehdaefaaPkt
import Derived.Deep.RegionLawGrows
namespace Go.Proofs.Ytogijioehdaefaa.Pkt
open Go.RowKit Go.Proofs.Ytogijioehdaefaa.Mem Go.Proofs.Ytogijioehdaefaa.Oct

/-- 'append(s, x..)' on bytes of the call's own, inside a region whose order is drawn -/
theorem step_app {P : Program} (w : World) {ops : Array Oper} {o : Oper} {a : Act} {K : Act → World → Prop} {Q : Exit → Act → World → Prop} {Z : Prop} (hgd : o.guard = none) (s x : Operand) (t : TypeId)
    (ho : o.op = .call { callee := .builtin .append, args := #[s, x], argTypes := #[t, t] })
    (E : TypeId) (ht : P.underlying t = some (.slice E)) (hi : (P.info? E).map (fun i => (i.zero, i.size, i.bytes)) = some (some (.int .u8 0), 1, 1))
    (base : Nat) (v : Value) (l : List UInt8) (hs : a.eval s = v) (hown : Own E w base v l) (B : Nat) (A : Option Addr) (m c : Nat) (new : List UInt8)
    (hx : a.eval x = .slice A m c) (hm : m = new.length) (hr : Bytes w B A new) (hb : base ≤ w.heap.size) (hlen : l.length + new.length ≤ 140737488355328)
    (h : ∀ v' w', Own E w' base v' (l ++ new) → w.grownBy w' v.ownBlock → K (a.put o.dst v') w') :
    if Region.wanted o (yielded ops a.tmps) = true then Oper.wp P o a w K Q else Z := by
  obtain ⟨i, h1, h2, h3, h4⟩ := info_parts hi
  subst hm
  rw [if_pos (by simp [Region.wanted, hgd])]
  rcases A with _ | ad
  · have hn : new = [] := by
      rcases Nat.eq_zero_or_pos new.length with h0 | h0
      · exact List.eq_nil_of_length_eq_zero h0
      · obtain ⟨_, _, hA, _⟩ := hr h0
        cases hA
    subst hn
    have hrun : (Builtin.append_ #[t, t] o.type #[v, .slice none 0 c]).run P w = .ok v w := by
      rcases hown.2 with ⟨rfl, _⟩ | ⟨g, cap, cur, rfl, _, _, hnc, _⟩
      · simp [Builtin.append_, run_underlying ht, sizeOf, typeInfo, h1, Builtin.lenOf, Builtin.firstCells]
      · simp [Builtin.append_, run_underlying ht, sizeOf, typeInfo, h1, Builtin.lenOf, Builtin.firstCells, hnc, storeCells]
    unfold Oper.wp execOp
    simp only [ho, resolve, invoke, builtin, Sem.run_bind, Sem.run_pure, Result.andThen_ok, List.map_toArray, List.map_cons, List.map_nil, hs, hx, List.length_nil, hrun]
    exact h v w (by simpa using hown) (World.grownBy.refl w _)
  · have hc : ∀ j u, (new.map bv)[j]? = some u → w.cell? (ad.add j) = some u := hr.cells rfl
    obtain ⟨v', w', hrun, r1, r2, _⟩ := run_append_own (P := P) w base t o.type E i (.int .u8 0) 1 1 ht h1 h2 h3 h4 rfl (by decide) v l.length (l.map bv) hown ad new.length c (new.map bv) (by simp) hc (bs_one new) (by unfold maxLen; omega) (by omega) hb
    unfold Oper.wp
    simp [execOp, ho, resolve, invoke, builtin, hs, hx, hrun, Result.andThen]
    exact h v' w' (by unfold Own; rw [List.length_append, List.map_append]; exact r1) r2

/-- the same, and what stood when w0 was is as it was -/
theorem step_appB {P : Program} (w : World) {ops : Array Oper} {o : Oper} {a : Act} {K : Act → World → Prop} {Q : Exit → Act → World → Prop} {Z : Prop} (hgd : o.guard = none) (s x : Operand) (t : TypeId)
    (ho : o.op = .call { callee := .builtin .append, args := #[s, x], argTypes := #[t, t] })
    (E : TypeId) (ht : P.underlying t = some (.slice E)) (hi : (P.info? E).map (fun i => (i.zero, i.size, i.bytes)) = some (some (.int .u8 0), 1, 1))
    (w0 : World) (v : Value) (l : List UInt8) (hs : a.eval s = v) (hown : Own E w w0.heap.size v l) (hB : Below w0.heap.size w0 w) (A : Option Addr) (m c : Nat) (new : List UInt8)
    (hx : a.eval x = .slice A m c) (hm : m = new.length) (hr : Bytes w w.heap.size A new) (hlen : l.length + new.length ≤ 140737488355328)
    (h : ∀ v' w', Own E w' w0.heap.size v' (l ++ new) → Below w0.heap.size w0 w' → K (a.put o.dst v') w') :
    if Region.wanted o (yielded ops a.tmps) = true then Oper.wp P o a w K Q else Z :=
  step_app w hgd s x t ho E ht hi w0.heap.size v l hs hown w.heap.size A m c new hx hm hr hB.size hlen fun v' w' h1 h2 => h v' w' h1 (hown.grown hB h2 (Nat.le_refl _) (Nat.le_refl _))

end Go.Proofs.Ytogijioehdaefaa.Pkt
