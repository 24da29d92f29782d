
/- Layer 48 (tune): rows of settings; what All, and the document's All, lay. -/
import Derived.Test.YtcbjimcnbdkaoaaTuneA
import Derived.Laws.OwnMore
import Derived.OwnWalk
import Derived.Below
import Derived.Carry
namespace Go.Proofs.Ytcbjimcnbdkaoaa.Tune
open Go.RowKit Go.Proofs.Ytcbjimcnbdkaoaa.Ring Go.ChangeShapes Go.WideShapes

abbrev Pr := Int × Int
/-- a setting's cells -/
def cfg (m : Int) (p : Pr) : List Value := [.int .i64 2, .int .i64 p.1, .int .i64 m, .int .i64 p.2, .int .i64 0, .int .i64 0, .int .u64 0]
def cfgs (m : Int) (ls : List Pr) : List Value := ls.flatMap (cfg m)
theorem cfgs_length (m : Int) (ls : List Pr) : (cfgs m ls).length = ls.length * 7 := by
  induction ls with
  | nil => rfl
  | cons p ls ih => unfold cfgs at ih ⊢; rw [List.flatMap_cons, List.length_append, ih]; simp [cfg]; omega
theorem cfgs_snoc (m : Int) (ls : List Pr) (p : Pr) : cfgs m (ls ++ [p]) = cfgs m ls ++ cfg m p := by
  unfold cfgs
  rw [List.flatMap_append]
  simp
theorem cfg_one (m : Int) (p : Pr) : ∀ u ∈ cfg m p, u.oneCell' = true := by
  intro u hu
  simp only [cfg, List.mem_cons, List.not_mem_nil, or_false] at hu
  rcases hu with rfl | rfl | rfl | rfl | rfl | rfl | rfl <;> rfl

def OwnC (w : World) (base : Nat) (v : Value) (m : Int) (ls : List Pr) : Prop := w.ownsRow base 47 7 v ls.length (cfgs m ls)
theorem OwnC.nil (w : World) (base : Nat) (m : Int) : OwnC w base (.slice none 0 0) m [] := World.ownsRow_nil w base _ 7

theorem infoC : (Try.prog.info? 47).map (fun i => (i.zero, i.size, i.bytes)) = some (some (.agg #[.int .i64 0, .int .i64 0, .int .i64 0, .int .i64 0, .int .i64 0, .int .i64 0, .int .u64 0]), 7, 56) := by kernel_rfl
theorem underC : Try.prog.underlying 42 = some (.slice 47) := by kernel_rfl

theorem info_get : ∃ i, Try.prog.info? 47 = some i ∧ i.zero = some (.agg #[.int .i64 0, .int .i64 0, .int .i64 0, .int .i64 0, .int .i64 0, .int .i64 0, .int .u64 0]) ∧ i.size = 7 ∧ i.bytes = 56 := by
  have h := infoC
  cases hi : Try.prog.info? 47 with
  | none => rw [hi] at h; cases h
  | some i =>
    rw [hi] at h
    simp only [Option.map_some, Option.some.injEq, Prod.mk.injEq] at h
    exact ⟨i, rfl, h.1, h.2.1, h.2.2⟩

/-- 'append(out, api.Config{..})' -/
theorem wpList_app_cfg (w : World) {ops : Array Oper} {rest : List Oper} {o : Oper} {a : Act} {Q : Exit → Act → World → Prop} (hgd : o.guard = none) (s x : Operand)
    (ho : o.op = .call { callee := .builtin .append, args := #[s, x], argTypes := #[42, 42] })
    (base : Nat) (v : Value) (m : Int) (ls : List Pr) (hs : a.eval s = v) (hown : OwnC w base v m ls) (p : Pr) (c : Nat) (cs : Array Value) (hcs : cs = (cfg m p).toArray)
    (hx : a.eval x = .slice (some ⟨w.heap.size, 0, none⟩) 1 c) (hb : base ≤ w.heap.size) (hlen : ls.length ≤ 1000)
    (h : ∀ v' w', OwnC w' base v' m (ls ++ [p]) → w.grownBy w' v.ownBlock → wpList Try.prog ops Q rest (a.put o.dst v') w') : wpList Try.prog ops Q (o :: rest) a (w.alloc (.cells cs 47)) := by
  obtain ⟨i, h1, h2, h3, h4⟩ := info_get
  subst hcs
  refine wpList_append_own (w.alloc (.cells (cfg m p).toArray 47)) hgd s x 42 ho base 47 i _ 7 56 underC h1 h2 h3 h4 rfl (by decide) v ls.length (cfgs m ls) hs (World.ownsRow.alloc hown _)
    ⟨w.heap.size, 0, none⟩ 1 c (cfg m p) hx rfl ?_ (cfg_one m p) (by unfold maxLen; omega) (by omega) (by simp; omega) ?_
  · intro j u hu
    rw [Addr.add_lit, Nat.zero_add]
    rw [cell_of_row _ w.heap.size j (cfg m p).toArray 47 (0, 0) (heap_alloc_new w _)]
    simpa using hu
  · intro v' w' ho' hg _
    refine h v' w' (by unfold OwnC; rw [List.length_append, cfgs_snoc]; exact ho') ?_
    have ha := World.grownBy_alloc w (.cells (cfg m p).toArray 47) v.ownBlock
    exact ⟨hg.os.trans ha.os, hg.tape.trans ha.tape, hg.output.trans ha.output, Nat.le_trans ha.size hg.size, fun k hk hne => (hg.block k (Nat.lt_of_lt_of_le hk ha.size) hne).trans (ha.block k hk hne)⟩
theorem OwnC.grown {C : Nat} {w0 w w' : World} {base : Nat} {v : Value} {m : Int} {ls : List Pr} (h : OwnC w base v m ls) (hb : Below C w0 w) (hg : w.grownBy w' v.ownBlock) (hC : C ≤ base) (hw : C ≤ w0.heap.size) : Below C w0 w' :=
  hb.grown hg (Nat.le_trans hw hb.size) fun k hk => Nat.le_trans hC (World.ownsRow.lt h k hk).1
theorem OwnC.shape {w : World} {base : Nat} {v : Value} {m : Int} {ls : List Pr} (h : OwnC w base v m ls) : ∃ A n cap, v = .slice A n cap ∧ ls.length = n := by
  rcases h.2 with ⟨rfl, h0⟩ | ⟨g, cap, cur, rfl, _⟩
  · exact ⟨none, 0, 0, rfl, h0⟩
  · exact ⟨_, _, cap, rfl, rfl⟩

/-! ## which settings there are -/
/-- the settings of a window with the first k lives -/
def rowK (w : Int) (k : Nat) : List Pr := (List.range k).map fun i : Nat => (w, w + (i : Int))
/-- how many lives a window has -/
def cnt (m w : Int) : Nat := if okG w m = true then (lng w m - w + 1).toNat else 0
/-- the settings of the first k windows -/
def full (m : Int) : Nat → List Pr
  | 0 => []
  | k + 1 => full m k ++ rowK ((k : Int) + 1) (cnt m ((k : Int) + 1))
theorem rowK_succ (w : Int) (k : Nat) : rowK w (k + 1) = rowK w k ++ [(w, w + (k : Int))] := by
  unfold rowK
  rw [List.range_succ, List.map_append]
  rfl
theorem rowK_length (w : Int) (k : Nat) : (rowK w k).length = k := by simp [rowK]
def allK (m n : Int) : List Pr := if 1 ≤ n ∧ n ≤ 1000 then (full m 64).take n.toNat else []

theorem take_more {α : Type} {l r : List α} {n : Nat} (h : (l.take n).length = n) : (l ++ r).take n = l.take n := by
  rw [List.take_append]
  have : n ≤ l.length := by rw [List.length_take] at h; omega
  rw [show n - l.length = 0 by omega]
  simp
theorem take_snoc_lt {α : Type} {l : List α} {x : α} {n : Nat} (h : (l.take n).length < n) : (l ++ [x]).take n = l.take n ++ [x] := by
  rw [List.length_take] at h
  rw [List.take_of_length_le (by simp; omega), List.take_of_length_le (by omega)]
theorem full_prefix (m : Int) (k : Nat) : ∀ j, ∃ r, full m (k + j) = full m k ++ r
  | 0 => ⟨[], by simp⟩
  | j + 1 => by
    obtain ⟨r, hr⟩ := full_prefix m k j
    exact ⟨r ++ rowK (((k + j : Nat) : Int) + 1) (cnt m (((k + j : Nat) : Int) + 1)), by rw [← Nat.add_assoc]; show full m (k + j) ++ _ = _; rw [hr, List.append_assoc]⟩
theorem rowK_prefix (w : Int) {k c : Nat} (h : k ≤ c) : ∃ r, rowK w c = rowK w k ++ r := by
  obtain ⟨j, rfl⟩ : ∃ j, c = k + j := ⟨c - k, by omega⟩
  clear h
  induction j with
  | zero => exact ⟨[], by simp⟩
  | succ j ih =>
    obtain ⟨r, hr⟩ := ih
    exact ⟨r ++ [(w, w + ((k + j : Nat) : Int))], by rw [← Nat.add_assoc, rowK_succ, hr, List.append_assoc]⟩
/-- so many as are asked for are there: nothing that comes behind turns it -/
theorem done {m : Int} {k i n : Nat} (hk : k < 64) (hi : i ≤ cnt m ((k : Int) + 1)) (h : ((full m k ++ rowK ((k : Int) + 1) i).take n).length = n) : (full m k ++ rowK ((k : Int) + 1) i).take n = (full m 64).take n := by
  obtain ⟨r, hr⟩ := rowK_prefix ((k : Int) + 1) hi
  obtain ⟨s, hs⟩ := full_prefix m (k + 1) (64 - (k + 1))
  rw [show k + 1 + (64 - (k + 1)) = 64 by omega] at hs
  rw [hs]
  show _ = (full m k ++ rowK ((k : Int) + 1) (cnt m ((k : Int) + 1)) ++ s).take n
  rw [hr, ← List.append_assoc (full m k), List.append_assoc (full m k ++ _), take_more h]
theorem check_cnt {m w : Int} {i : Nat} (hw : 1 ≤ w) : check w m (w + (i : Int)) = 0 ↔ i < cnt m w := by
  constructor
  · intro h
    obtain ⟨h1, h2⟩ := check_okG h
    unfold cnt
    rw [if_pos h1]
    omega
  · intro h
    unfold cnt at h
    split at h
    · rename_i hg
      have := okG_check hg
      rw [check_iff] at this ⊢
      have := lng_le w m
      omega
    · omega
end Go.Proofs.Ytcbjimcnbdkaoaa.Tune
