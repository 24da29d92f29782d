
/- Packets: append, and what stood when w0 was is as it was. -/
import Derived.Test.YtonjdkankegdaaaPktA
namespace Go.Proofs.Ytonjdkankegdaaa.Pkt
open Go.RowKit Go.Proofs.Ytonjdkankegdaaa.Mem Go.Proofs.Ytonjdkankegdaaa.Oct

/-- 'append(s, p...)' in a plain region -/
theorem wpList_appB {P : Program} (w : World) {ops : Array Oper} {rest : List Oper} {o : Oper} {a : Act} {Q : Exit → Act → World → Prop} (hgd : o.guard = none) (s x : Operand) (t : TypeId)
    (ho : o.op = .call { callee := .builtin .append, args := #[s, x], argTypes := #[t, t] })
    (E : TypeId) (ht : P.underlying t = some (.slice E)) (hi : (P.info? E).map (fun i => (i.zero, i.size, i.bytes)) = some (some (.int .u8 0), 1, 1))
    (w0 : World) (v : Value) (l : List UInt8) (hs : a.eval s = v) (hown : Own E w w0.heap.size v l) (hB : Below w0.heap.size w0 w) (A : Option Addr) (m c : Nat) (new : List UInt8)
    (hx : a.eval x = .slice A m c) (hm : m = new.length) (hr : Bytes w w.heap.size A new) (hlen : l.length + new.length ≤ 140737488355328)
    (h : ∀ v' w', Own E w' w0.heap.size v' (l ++ new) → Below w0.heap.size w0 w' → wpList P ops Q rest (a.put o.dst v') w') : wpList P ops Q (o :: rest) a w :=
  wpList_app w hgd s x t ho E ht hi w0.heap.size v l hs hown w.heap.size A m c new hx hm hr hB.size hlen fun v' w' h1 h2 => h v' w' h1 (hown.grown hB h2 (Nat.le_refl _) (Nat.le_refl _))
/-- a box of the call's own, behind whatever left it alone -/
theorem box_cell {W w1 : World} {cs : Array Value} {T : TypeId} {C : Nat} (hb : Below C (W.alloc (.cells cs T)) w1) (hC : W.heap.size < C) (i : Nat) : w1.cell? ⟨W.heap.size, i, none⟩ = cs[i]? ∧ w1.frozen? ⟨W.heap.size, i, none⟩ = false := by
  refine ⟨?_, ?_⟩
  · rw [(bcell hb).1 _ _ hC, cell_of_row _ W.heap.size i cs T (0, 0) (heap_alloc_new W _)]
  · rw [(bcell hb).2 _ _ hC]
    simp [go_sem]
end Go.Proofs.Ytonjdkankegdaaa.Pkt
