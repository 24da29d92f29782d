
/- Layer 6 (edit): the document's One: a byte more. -/
import Derived.Test.YtogijioehdaefaaEdE
namespace Go.Proofs.Ytogijioehdaefaa.Ed
open Go.RowKit Go.Proofs.Ytogijioehdaefaa.Mem Go.Proofs.Ytogijioehdaefaa.Oct Go.Proofs.Ytogijioehdaefaa.Pkt Go.Proofs.Ytogijioehdaefaa.Def

theorem step_app2 {P : Program} (w : World) {ops : Array Oper} {o : Oper} {a : Act} {K : Act → World → Prop} {Q : Exit → Act → World → Prop} {Z : Prop} (hgd : o.guard = none) (s x : Operand) (t : TypeId)
    (ho : o.op = .call { callee := .builtin .append, args := #[s, x], argTypes := #[t, t] })
    (E : TypeId) (ht : P.underlying t = some (.slice E)) (hi : (P.info? E).map (fun i => (i.zero, i.size, i.bytes)) = some (some (.int .u8 0), 1, 1))
    (w0 : World) (v : Value) (l : List UInt8) (hs : a.eval s = v) (hown : Own E w w0.heap.size v l) (hB : Below w0.heap.size w0 w) (A : Option Addr) (m c : Nat) (new : List UInt8)
    (hx : a.eval x = .slice A m c) (hm : m = new.length) (hr : Bytes w w.heap.size A new) (hlen : l.length + new.length ≤ 140737488355328)
    (h : ∀ v' w', Own E w' w0.heap.size v' (l ++ new) → Below w0.heap.size w0 w' → w.grownBy w' v.ownBlock → K (a.put o.dst v') w') :
    if Region.wanted o (yielded ops a.tmps) = true then Oper.wp P o a w K Q else Z :=
  step_app w hgd s x t ho E ht hi w0.heap.size v l hs hown w.heap.size A m c new hx hm hr hB.size hlen fun v' w' h1 h2 => h v' w' h1 (hown.grown hB h2 (Nat.le_refl _) (Nat.le_refl _)) h2
theorem cell_bytes {w w3 : World} {gc gE : Nat} (c : UInt8) (hg : w.grownBy w3 (some gE)) (hc : w.cell? ⟨gc, 0, none⟩ = some (.int .u8 (c.toNat : Int))) (hlt : gc < w.heap.size) (hne : gc ≠ gE) : Bytes w3 w3.heap.size (some ⟨gc, 0, none⟩) [c] := fun _ => by
  refine ⟨gc, 0, rfl, Nat.lt_of_lt_of_le hlt hg.size, fun i hi => ?_⟩
  obtain rfl : i = 0 := by simpa using hi
  rw [(chg_grown hg).cell (p := ⟨gc, 0 + 0, none⟩) hlt (fun h => by injection h with h; exact hne h)]
  exact hc
theorem gives_of {W w1 w' : World} {l l' : List UInt8} {v : Value} (hb : Below W.heap.size W w1) (hl : l' = l) (ho : Own 5 w' w1.heap.size v l') (h : Below w1.heap.size w1 w') : Gives W l (.returned v) w' := by
  subst hl
  exact ⟨v, rfl, ho.mono hb.size, below_next hb h⟩

set_option maxHeartbeats 4000000 in
set_option maxRecDepth 100000 in
theorem refOne_ins (A : Option Addr) (n cap i : Nat) (c : UInt8) (l : List UInt8) (W : World) (hn : n = l.length) (hA : Bytes W W.heap.size A l) (hi : i ≤ n) (hc : n ≤ cap) (h5 : n < 512) (hs : (A = none ∧ n = 0 ∧ cap = 0) ∨ ∃ g, A = some ⟨g, 0, none⟩) :
    Calls Try.prog 36 #[.slice A n cap, .agg #[.int .i64 1, .int .i64 i, .int .u8 (c.toNat : Int)]] W (Gives W (l.take i ++ c :: l.drop i)) := by
  obtain ⟨w1, hw1⟩ : ∃ w1, w1 = W.alloc (.cells #[.int .i64 1, .int .i64 i, .int .u8 (c.toNat : Int)] 78) := ⟨_, rfl⟩
  have hb1 : Below W.heap.size W w1 := by rw [hw1]; exact below_alloc (Below.refl _ _) _
  have hd1 : w1.cell? ⟨W.heap.size, 1, none⟩ = some (.int .i64 i) := by rw [hw1]; simp [go_sem]
  have hd2 : w1.cell? ⟨W.heap.size, 2, none⟩ = some (.int .u8 (c.toNat : Int)) := by rw [hw1]; simp [go_sem]
  have hq0 : W.heap.size < w1.heap.size := by rw [hw1]; simp
  have hq2 : ¬ W.heap.size = w1.heap.size := by omega
  have hq4 : ¬ w1.heap.size = W.heap.size := by omega
  have hA1 := hA.later hb1
  have HLO := Lib.hid (hA1.take (k := i) (by omega))
  have HHI := Lib.hid (hA1.drop (k := i) (by omega))
  have HB1 := Lib.hid hb1
  have HN := Lib.hid hn
  have h5I : (n : Int) < 512 := by omega
  have hiI : (i : Int) ≤ (n : Int) := by omega
  have hiI2 : ¬ ((n : Int) < (i : Int)) := by omega
  have hcI : (n : Int) ≤ (cap : Int) := by omega
  have hicI : (i : Int) ≤ (cap : Int) := by omega
  clear hA hA1 hb1
  have hs' : (A = none ∧ n = 0 ∧ cap = 0) ∨ (∃ g, A = some ⟨g, 0, none⟩ ∧ cap = i) ∨ ∃ g, A = some ⟨g, 0, none⟩ ∧ ¬ cap = i := by
    rcases hs with h | ⟨g, h⟩
    · exact .inl h
    · by_cases hq : cap = i
      · exact .inr (.inl ⟨g, h, hq⟩)
      · exact .inr (.inr ⟨g, h, hq⟩)
  clear hs
  have HH : Hid (∀ g, A = some ⟨g, 0, none⟩ → cap = i → Bytes w1 w1.heap.size (some ⟨g, 0, none⟩) (l.drop i)) := fun g _ h => by
    have : l.drop i = [] := by rw [List.drop_eq_nil_iff]; omega
    rw [this]
    exact Bytes.nil _ _ _
  rcases hs' with ⟨rfl, rfl, rfl⟩ | ⟨g, rfl, hq⟩ | ⟨g, rfl, hq⟩
  · clear HH
    obtain rfl := List.eq_nil_of_length_eq_zero HN.out.symm
    obtain rfl : i = 0 := by omega
    clear hi hc h5 HLO HHI hiI hiI2 hcI hicI h5I hn HN
    have e0 : ((0 : Nat) : Int) = 0 := rfl
    simp only [e0] at hw1 hd1 ⊢
    clear e0
    go_enter Try.func36, Try.ntmps36
    go_wp2_with fail
    rw [← hw1]
    clear hw1
    go_region_held3 (fun w' => w'.cell? ⟨W.heap.size, 1, none⟩ = some (.int .i64 0) ∧ w'.cell? ⟨W.heap.size, 2, none⟩ = some (.int .u8 (c.toNat : Int)))
      (first | go_keep | exact ⟨hd4, hd5⟩)
      ((first
        | (refine step_app2 _ (by rfl) _ _ 33 (by rfl) 5 Try.underlying33 infoU8 w1 _ [] (by rfl)
             (by first | exact Own.drew (own_lit_at 5 w1 _ rfl (Nat.le_refl _) [] #[] rfl (by simp [maxLen])) | exact (Own.drew (own_lit_at 5 w1 _ rfl (Nat.le_refl _) [] #[] rfl (by simp [maxLen]))).alloc _ | exact Own.drew (own_lit_at 5 (w1.alloc _) _ (by simp) (by simp) [] #[] rfl (by simp [maxLen])))
             (by first | exact Below.drew (below_alloc (Below.refl w1.heap.size w1) _) | exact Below.drew (below_alloc (below_alloc (Below.refl w1.heap.size w1) _) _))
             _ 0 0 [] (by rfl) rfl (Bytes.nil _ _ _) (by simp) ?_
           intro v3 w3 ho3 hb3 hg3
           have hd4 : w3.cell? ⟨W.heap.size, 1, none⟩ = some (.int .i64 0) := by rw [(bcell hb3).1 _ _ hq0]; exact hd1
           have hd5 : w3.cell? ⟨W.heap.size, 2, none⟩ = some (.int .u8 (c.toNat : Int)) := by rw [(bcell hb3).1 _ _ hq0]; exact hd2
           have hq6 : W.heap.size < w3.heap.size := Nat.lt_of_lt_of_le hq0 hb3.size)
        | (refine step_app2 _ (by rfl) _ _ 33 (by rfl) 5 Try.underlying33 infoU8 w1 _ ([] ++ []) (by rfl)
             (by first | exact ho3 | exact ho3.alloc _) (by first | exact hb3 | exact below_alloc hb3 _)
             _ 1 1 [c] (by rfl) rfl (by first | exact lit_bytes 5 w3 [c] #[.int .u8 (c.toNat : Int)] rfl (by simp [maxLen]) | exact cell_bytes c hg3 (by simp [go_sem]) (by first | (simp; done) | (simp; omega)) (by first | (simp; done) | (simp; omega))) (by simp) ?_
           intro v4 w4 ho4 hb4 hg4
           have hd4 : w4.cell? ⟨W.heap.size, 1, none⟩ = some (.int .i64 0) := by rw [(bcell hb4).1 _ _ hq0]; exact hd1
           have hd5 : w4.cell? ⟨W.heap.size, 2, none⟩ = some (.int .u8 (c.toNat : Int)) := by rw [(bcell hb4).1 _ _ hq0]; exact hd2
           have hq7 : W.heap.size < w4.heap.size := Nat.lt_of_lt_of_le hq0 hb4.size)
        | (refine step_app2 _ (by rfl) _ _ 33 (by rfl) 5 Try.underlying33 infoU8 w1 _ ([] ++ [] ++ [c]) (by rfl) ho4 hb4
             _ 0 0 [] (by rfl) rfl (Bytes.nil _ _ _) (by simp) ?_
           intro v5 w5 ho5 hb5 hg5
           have hd4 : w5.cell? ⟨W.heap.size, 1, none⟩ = some (.int .i64 0) := by rw [(bcell hb5).1 _ _ hq0]; exact hd1
           have hd5 : w5.cell? ⟨W.heap.size, 2, none⟩ = some (.int .u8 (c.toNat : Int)) := by rw [(bcell hb5).1 _ _ hq0]; exact hd2)
        | fail))
    all_goals go_wp2_with fail
    all_goals go_ret
    all_goals exact gives_of HB1.out (by simp) ho5 hb5
  · clear hn
    have HHJ := Lib.hid (HH.out g rfl hq)
    obtain rfl : cap = i := hq
    obtain rfl : n = cap := by omega
    clear HH
    go_enter Try.func36, Try.ntmps36
    go_wp2_with fail
    rw [← hw1]
    clear hw1
    go_region_held3 (fun w' => w'.cell? ⟨W.heap.size, 1, none⟩ = some (.int .i64 n) ∧ w'.cell? ⟨W.heap.size, 2, none⟩ = some (.int .u8 (c.toNat : Int)))
      (first | go_keep | exact ⟨hd4, hd5⟩)
      ((first
        | (refine step_app2 _ (by rfl) _ _ 33 (by rfl) 5 Try.underlying33 infoU8 w1 _ [] (by rfl)
             (by first | exact Own.drew (own_lit_at 5 w1 _ rfl (Nat.le_refl _) [] #[] rfl (by simp [maxLen])) | exact (Own.drew (own_lit_at 5 w1 _ rfl (Nat.le_refl _) [] #[] rfl (by simp [maxLen]))).alloc _ | exact Own.drew (own_lit_at 5 (w1.alloc _) _ (by simp) (by simp) [] #[] rfl (by simp [maxLen])))
             (by first | exact Below.drew (below_alloc (Below.refl w1.heap.size w1) _) | exact Below.drew (below_alloc (below_alloc (Below.refl w1.heap.size w1) _) _))
             _ n n (l.take n) (by rfl) (by have := HN.out; simp; omega) (by first | exact HLO.out.later (Below.drew (below_alloc (Below.refl w1.heap.size w1) _)) | exact HLO.out.later (Below.drew (below_alloc (below_alloc (Below.refl w1.heap.size w1) _) _))) (by simp; omega) ?_
           intro v3 w3 ho3 hb3 hg3
           have hd4 : w3.cell? ⟨W.heap.size, 1, none⟩ = some (.int .i64 n) := by rw [(bcell hb3).1 _ _ hq0]; exact hd1
           have hd5 : w3.cell? ⟨W.heap.size, 2, none⟩ = some (.int .u8 (c.toNat : Int)) := by rw [(bcell hb3).1 _ _ hq0]; exact hd2
           have hq6 : W.heap.size < w3.heap.size := Nat.lt_of_lt_of_le hq0 hb3.size)
        | (refine step_app2 _ (by rfl) _ _ 33 (by rfl) 5 Try.underlying33 infoU8 w1 _ ([] ++ l.take n) (by rfl)
             (by first | exact ho3 | exact ho3.alloc _) (by first | exact hb3 | exact below_alloc hb3 _)
             _ 1 1 [c] (by rfl) rfl (by first | exact lit_bytes 5 w3 [c] #[.int .u8 (c.toNat : Int)] rfl (by simp [maxLen]) | exact cell_bytes c hg3 (by simp [go_sem]) (by first | (simp; done) | (simp; omega)) (by first | (simp; done) | (simp; omega))) (by simp; omega) ?_
           intro v4 w4 ho4 hb4 hg4
           have hd4 : w4.cell? ⟨W.heap.size, 1, none⟩ = some (.int .i64 n) := by rw [(bcell hb4).1 _ _ hq0]; exact hd1
           have hd5 : w4.cell? ⟨W.heap.size, 2, none⟩ = some (.int .u8 (c.toNat : Int)) := by rw [(bcell hb4).1 _ _ hq0]; exact hd2
           have hq7 : W.heap.size < w4.heap.size := Nat.lt_of_lt_of_le hq0 hb4.size)
        | (refine step_app2 _ (by rfl) _ _ 33 (by rfl) 5 Try.underlying33 infoU8 w1 _ ([] ++ l.take n ++ [c]) (by rfl) ho4 hb4
             _ 0 0 (l.drop n) (by rfl) (by have := HN.out; simp; omega) (HHJ.out.later hb4) (by have := HN.out; simp; omega) ?_
           intro v5 w5 ho5 hb5 hg5
           have hd4 : w5.cell? ⟨W.heap.size, 1, none⟩ = some (.int .i64 n) := by rw [(bcell hb5).1 _ _ hq0]; exact hd1
           have hd5 : w5.cell? ⟨W.heap.size, 2, none⟩ = some (.int .u8 (c.toNat : Int)) := by rw [(bcell hb5).1 _ _ hq0]; exact hd2)
        | fail))
    all_goals go_wp2_with fail
    all_goals go_ret
    all_goals exact gives_of HB1.out (by simp) ho5 hb5
  · clear HH hn
    have HHJ := Lib.hid (show Bytes w1 w1.heap.size (some ⟨g, i, none⟩) (l.drop i) by have := HHI.out; rwa [Option.map_some, Addr.add_lit, Nat.zero_add] at this)
    go_enter Try.func36, Try.ntmps36
    go_wp2_with fail
    rw [← hw1]
    clear hw1
    go_region_held3 (fun w' => w'.cell? ⟨W.heap.size, 1, none⟩ = some (.int .i64 i) ∧ w'.cell? ⟨W.heap.size, 2, none⟩ = some (.int .u8 (c.toNat : Int)))
      (first | go_keep | exact ⟨hd4, hd5⟩)
      ((first
        | (refine step_app2 _ (by rfl) _ _ 33 (by rfl) 5 Try.underlying33 infoU8 w1 _ [] (by rfl)
             (by first | exact Own.drew (own_lit_at 5 w1 _ rfl (Nat.le_refl _) [] #[] rfl (by simp [maxLen])) | exact (Own.drew (own_lit_at 5 w1 _ rfl (Nat.le_refl _) [] #[] rfl (by simp [maxLen]))).alloc _ | exact Own.drew (own_lit_at 5 (w1.alloc _) _ (by simp) (by simp) [] #[] rfl (by simp [maxLen])))
             (by first | exact Below.drew (below_alloc (Below.refl w1.heap.size w1) _) | exact Below.drew (below_alloc (below_alloc (Below.refl w1.heap.size w1) _) _))
             _ i cap (l.take i) (by rfl) (by have := HN.out; simp; omega) (by first | exact HLO.out.later (Below.drew (below_alloc (Below.refl w1.heap.size w1) _)) | exact HLO.out.later (Below.drew (below_alloc (below_alloc (Below.refl w1.heap.size w1) _) _))) (by simp; omega) ?_
           intro v3 w3 ho3 hb3 hg3
           have hd4 : w3.cell? ⟨W.heap.size, 1, none⟩ = some (.int .i64 i) := by rw [(bcell hb3).1 _ _ hq0]; exact hd1
           have hd5 : w3.cell? ⟨W.heap.size, 2, none⟩ = some (.int .u8 (c.toNat : Int)) := by rw [(bcell hb3).1 _ _ hq0]; exact hd2
           have hq6 : W.heap.size < w3.heap.size := Nat.lt_of_lt_of_le hq0 hb3.size)
        | (refine step_app2 _ (by rfl) _ _ 33 (by rfl) 5 Try.underlying33 infoU8 w1 _ ([] ++ l.take i) (by rfl)
             (by first | exact ho3 | exact ho3.alloc _) (by first | exact hb3 | exact below_alloc hb3 _)
             _ 1 1 [c] (by rfl) rfl (by first | exact lit_bytes 5 w3 [c] #[.int .u8 (c.toNat : Int)] rfl (by simp [maxLen]) | exact cell_bytes c hg3 (by simp [go_sem]) (by first | (simp; done) | (simp; omega)) (by first | (simp; done) | (simp; omega))) (by simp; omega) ?_
           intro v4 w4 ho4 hb4 hg4
           have hd4 : w4.cell? ⟨W.heap.size, 1, none⟩ = some (.int .i64 i) := by rw [(bcell hb4).1 _ _ hq0]; exact hd1
           have hd5 : w4.cell? ⟨W.heap.size, 2, none⟩ = some (.int .u8 (c.toNat : Int)) := by rw [(bcell hb4).1 _ _ hq0]; exact hd2
           have hq7 : W.heap.size < w4.heap.size := Nat.lt_of_lt_of_le hq0 hb4.size)
        | (refine step_app2 _ (by rfl) _ _ 33 (by rfl) 5 Try.underlying33 infoU8 w1 _ ([] ++ l.take i ++ [c]) (by rfl) ho4 hb4
             _ (n - i) (cap - i) (l.drop i) (by rfl) (by have := HN.out; simp; omega) (HHJ.out.later hb4) (by have := HN.out; simp; omega) ?_
           intro v5 w5 ho5 hb5 hg5
           have hd4 : w5.cell? ⟨W.heap.size, 1, none⟩ = some (.int .i64 i) := by rw [(bcell hb5).1 _ _ hq0]; exact hd1
           have hd5 : w5.cell? ⟨W.heap.size, 2, none⟩ = some (.int .u8 (c.toNat : Int)) := by rw [(bcell hb5).1 _ _ hq0]; exact hd2)
        | fail))
    all_goals go_wp2_with fail
    all_goals go_ret
    all_goals exact gives_of HB1.out (by simp) ho5 hb5
end Go.Proofs.Ytogijioehdaefaa.Ed
