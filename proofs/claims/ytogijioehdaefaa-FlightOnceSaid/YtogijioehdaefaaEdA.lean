
/- Layer 6 (edit): one byte taken out of a row that is the call's own. -/
import Derived.Test.YtogijioehdaefaaDefW
import Derived.Deep.RegionHeld3
import Derived.Deep.DrawnRows
import Derived.Lib.SliceRun
import Derived.Deep.RegionLaw
import Derived.Laws.CopyOwn
attribute [local go_sem ↓] Go.wp_at_zero Go.wp_at_succ
namespace Go.Proofs.Ytogijioehdaefaa.Ed
open Go.RowKit Go.Proofs.Ytogijioehdaefaa.Mem Go.Proofs.Ytogijioehdaefaa.Oct Go.Proofs.Ytogijioehdaefaa.Pkt Go.Proofs.Ytogijioehdaefaa.Def

/-- append within the row, as one step of a region that draws; the two slices may lie over each other -/
theorem step_append_row {P : Program} (w : World) {ops : Array Oper} {o : Oper} {a : Act} {K : Act → World → Prop} {Q : Exit → Act → World → Prop} {Z : Prop} (hgd : o.guard = none) (s x : Operand) (t : TypeId)
    (ho : o.op = .call { callee := .builtin .append, args := #[s, x], argTypes := #[t, t] })
    (E : TypeId) (ht : P.underlying t = some (.slice E)) (hi : (P.info? E).map (fun i => (i.zero, i.size, i.bytes)) = some (some (.int .u8 0), 1, 1))
    (g n cap : Nat) (cur : Array Value) (hg : w.heap[g]? = some (.cells cur E (0, 0))) (hs : a.eval s = .slice (some ⟨g, 0, none⟩) n cap) (ad : Addr) (m c : Nat) (hx : a.eval x = .slice (some ad) m c)
    (news : List Value) (hl : news.length = m) (hnews : ∀ j u, news[j]? = some u → w.cell? (ad.add j) = some u) (h1 : ∀ u ∈ news, u.oneCell' = true) (hroom : n + m ≤ cap) (hfit : n + m ≤ cur.size)
    (h : ∀ w', w'.heap[g]? = some (.cells (cur.toList.take n ++ news ++ cur.toList.drop (n + m)).toArray E (0, 0)) → w.grownBy w' (some g) → K (a.put o.dst (.slice (some ⟨g, 0, none⟩) (n + m) cap)) w') :
    if Region.wanted o (yielded ops a.tmps) = true then Oper.wp P o a w K Q else Z := by
  obtain ⟨i, i1, _, i3, _⟩ := info_parts hi
  rw [if_pos (by simp [Region.wanted, hgd])]
  have hr := run_append_room (P := P) w t o.type E i ht i1 g n cap cur hg ad m c news (by rw [i3]; omega) hnews h1 hroom (by rw [i3]; omega)
  rw [i3] at hr
  simp only [Nat.mul_one] at hr
  unfold Oper.wp
  simp [execOp, ho, resolve, invoke, builtin, hs, hx, hr, Result.andThen]
  refine h _ ?_ ⟨rfl, rfl, rfl, by simp [World.setRow], fun k _ hk => setRow_other w g k _ (fun e => hk (by rw [e]))⟩
  have := setRow_heap w g cur (cur.toList.take n ++ news ++ cur.toList.drop (n + m)).toArray E (0, 0) hg
  rw [hl]
  simpa using this

theorem own_row {E : TypeId} {w : World} {base g n cap : Nat} {l : List UInt8} (h : Own E w base (.slice (some ⟨g, 0, none⟩) n cap) l) :
    ∃ cur, w.heap[g]? = some (.cells cur E (0, 0)) ∧ base ≤ g ∧ n = l.length ∧ n ≤ cap ∧ cap ≤ maxLen ∧ cur.size = cap ∧ cur.toList.take n = l.map bv := by
  rcases h.2 with ⟨h', _⟩ | ⟨g', cap', cur, hv, hbg, hg, hn, hm, hcs, htk⟩
  · simp at h'
  · simp only [Value.slice.injEq, Option.some.injEq, Addr.mk.injEq, and_true] at hv
    obtain ⟨rfl, rfl, rfl⟩ := hv
    simp only [Nat.mul_one] at hcs htk
    exact ⟨cur, hg, hbg, rfl, hn, hm, hcs, htk⟩
theorem own_of_row {E : TypeId} {w : World} {base g n cap : Nat} {l : List UInt8} {cur : Array Value} (hg : w.heap[g]? = some (.cells cur E (0, 0))) (hb : base ≤ g) (hn : n = l.length) (hc : n ≤ cap) (hm : cap ≤ maxLen) (hcs : cur.size = cap) (htk : cur.toList.take n = l.map bv) :
    Own E w base (.slice (some ⟨g, 0, none⟩) n cap) l := by
  subst hn
  exact ⟨by simp, .inr ⟨g, cap, cur, rfl, hb, hg, hc, hm, by rw [hcs, Nat.mul_one], by rw [Nat.mul_one]; exact htk⟩⟩
theorem own_set_out {E : TypeId} {w : World} {base g n cap : Nat} {l : List UInt8} (h : Own E w base (.slice (some ⟨g, 0, none⟩) n cap) l) (j : Nat) (hj : n ≤ j) (u : Value) : Own E (w.setCell ⟨g, j, none⟩ u) base (.slice (some ⟨g, 0, none⟩) n cap) l := by
  obtain ⟨cur, hg, hb, hn, hc, hm, hcs, htk⟩ := own_row h
  have := setCell_eq_setRow w g j cur E (0, 0) u hg
  rw [this]
  refine own_of_row (setRow_heap w g cur _ E _ hg) hb hn hc hm (by simpa using hcs) ?_
  rw [← htk, Array.toList_setIfInBounds, List.take_set_of_le hj]

theorem chg_undrew {q : Nat → Prop} {a b : World} (h : Chg q a.drew b) : Chg q a b := ⟨h.os, h.tape, h.output, h.size, h.block⟩
theorem zero_u8 : ∀ w, (zeroValue 5).run Try.prog w = .ok (.int .u8 0) w := by
  obtain ⟨i, h1, h2, _, _⟩ := info_parts infoU8
  intro w
  simp [zeroValue, typeInfo, h1, h2]
/-- 'clear(s)', s one byte of a row -/
theorem run_clear1 {w : World} (ty g j n c : Nat) (hn : n = 1) (y : Value) (hy : w.cell? ⟨g, j, none⟩ = some y) (hz : w.frozen? ⟨g, j, none⟩ = false) :
    (Builtin.clear_ #[33] ty #[.slice (some ⟨g, j, none⟩) n c]).run Try.prog w = .ok (.tuple #[]) (w.setCell ⟨g, j, none⟩ (.int .u8 0)) := by
  subst hn
  have hc1 : ∀ i, i < 1 → (w.cell? ⟨g, j + i, none⟩).isSome = true := by
    intro i hi
    obtain rfl : i = 0 := by omega
    rw [Nat.add_zero, hy]
    rfl
  have hf1 : ∀ i, i < 1 → w.frozen? ⟨g, j + i, none⟩ = false := by
    intro i hi
    obtain rfl : i = 0 := by omega
    exact hz
  exact Lib.run_clear_slice (P := Try.prog) w 33 5 ty (.int .u8 0) Try.underlying33 zero_u8 rfl rfl g j 1 c (by decide) hc1 hf1

set_option maxHeartbeats 4000000 in
theorem Delete_any (g n cap a base : Nat) (l : List UInt8) (W : World) (ho : Own 5 W base (.slice (some ⟨g, 0, none⟩) n cap) l) (ha : a < l.length) (hl : l.length ≤ 1000000) :
    Calls Try.prog 38 #[.slice (some ⟨g, 0, none⟩) n cap, .int .i64 a, .int .i64 (a + 1)] W fun e w' =>
      e = .returned (.slice (some ⟨g, 0, none⟩) (n - 1) cap) ∧ Own 5 w' base (.slice (some ⟨g, 0, none⟩) (n - 1) cap) (l.take a ++ l.drop (a + 1)) ∧ Chg (fun k => k = g) W w' := by
  obtain ⟨cur, hg, hb, hn, hc, hm, hcs, htk⟩ := own_row ho
  obtain ⟨m, hm1⟩ : ∃ m, n = a + 1 + m := ⟨n - (a + 1), by omega⟩
  subst hm1
  obtain ⟨c', hc1⟩ : ∃ c', cap = a + 1 + m + c' := ⟨cap - (a + 1 + m), by omega⟩
  subst hc1
  have haI : (a : Int) ≤ (a : Int) + 1 := by omega
  have hmI : (a : Int) + 1 ≤ (a : Int) + 1 + (m : Int) := by omega
  have hmI2 : (a : Int) + 1 + (m : Int) ≤ (a : Int) + 1 + (m : Int) + (c' : Int) := by omega
  have haI2 : (a : Int) ≤ (a : Int) + 1 + (m : Int) + (c' : Int) := by omega
  have haI4 : (0 : Int) ≤ (a : Int) + 1 := by omega
  have haI3 : (a : Int) ≤ (a : Int) + 1 + (m : Int) := by omega
  have hne : ((a : Int) == (a : Int) + 1) = false := by rw [beq_eq_false_iff_ne]; omega
  have haB : (a : Int) ≤ 1000000 := by omega
  have hmB : (m : Int) ≤ 1000000 := by omega
  clear ho
  have hlm : l.length = a + 1 + m := hn.symm
  obtain ⟨news, hnews⟩ : ∃ news, news = (l.drop (a + 1)).map bv := ⟨_, rfl⟩
  have hnl : news.length = m := by rw [hnews]; simp; omega
  have hnc : ∀ j u, news[j]? = some u → W.cell? ((⟨g, a + 1, none⟩ : Addr).add j) = some u := fun j u hu => by
    have hj : j < news.length := (List.getElem?_eq_some_iff.1 hu).1
    rw [Addr.add_lit, cell_of_row W g _ cur _ (0, 0) hg]
    have h1 : (cur.toList.take (a + 1 + m))[a + 1 + j]? = (l.map bv)[a + 1 + j]? := by rw [htk]
    rw [List.getElem?_take, if_pos (by omega)] at h1
    rw [← Array.getElem?_toList, h1, ← hu, hnews, List.getElem?_map, List.getElem?_map, List.getElem?_drop]
  have hn1 : ∀ u ∈ news, u.oneCell' = true := by rw [hnews]; exact bs_one _
  have hfin : (cur.toList.take a ++ news ++ cur.toList.drop (a + m)).take (a + m) = (l.take a ++ l.drop (a + 1)).map bv := by
    have h2 : cur.toList.take a = (l.take a).map bv := by
      have : cur.toList.take a = (cur.toList.take (a + 1 + m)).take a := by rw [List.take_take]; congr 1; omega
      rw [this, htk, ← List.map_take]
    have h3 : (cur.toList.take a ++ news).length = a + m := by rw [List.length_append, hnl, h2]; simp; omega
    rw [List.take_append_of_le_length (by omega), List.take_of_length_le (by omega), h2, hnews, List.map_append]
  have HFIN := Lib.hid hfin
  have HNC := Lib.hid hnc
  have HNL := Lib.hid hnl
  have HN1 := Lib.hid hn1
  have HG := Lib.hid hg
  have HCS := Lib.hid hcs
  have HLM := Lib.hid hlm
  have HBM := Lib.hid (And.intro hb hm)
  clear hfin hnc hnl hn1 hnews hcs hlm hb hm htk hc hn hg ha hl
  have hcase : (m = 0 ∧ c' = 0) ∨ ¬ (a + 1 + m + c' = a + 1) := by omega
  rcases hcase with ⟨hm0, hc0⟩ | hcase
  · subst hm0 hc0
    have hnw : news = [] := List.eq_nil_of_length_eq_zero HNL.out
    subst hnw
    have HFIN' := Lib.hid HFIN.out
    simp only [Nat.add_zero, List.append_nil] at HFIN'
    simp only [Nat.add_zero] at HCS HLM HBM
    have hk0 : (a : Int) ≤ (a : Int) + 1 := by omega
    clear hmI hmI2 haI2 haI3 hmB HNC HNL HN1 HFIN
    simp only [Nat.add_zero]
    go_enter Try.func38, Try.ntmps38
    go_wp2_with fail
    go_region_law (refine step_append_row _ rfl _ _ 33 (by rfl) 5 Try.underlying33 infoU8 g a (a + 1) cur HG.out (by rfl) ⟨g, 0, none⟩ 0 _ (by rfl) [] rfl (by simp) (by simp) (by omega) (by rw [HCS.out]; omega) ?_; intro w' hg' hb')
    simp only [Nat.add_zero, List.append_nil] at hg'
    have hcs' : (cur.toList.take a ++ cur.toList.drop a).toArray.size = a + 1 := by
      have := HCS.out
      simp
      omega
    have ho' : Own 5 w' base (.slice (some ⟨g, 0, none⟩) a (a + 1)) (l.take a ++ l.drop (a + 1)) :=
      own_of_row hg' HBM.out.1 (by have := HLM.out; simp; omega) (by omega) HBM.out.2 hcs' HFIN'.out
    obtain ⟨y, hy⟩ : ∃ y, w'.cell? ⟨g, a, none⟩ = some y := by
      rw [cell_of_row w' g _ _ _ (0, 0) hg']
      exact ⟨_, Array.getElem?_eq_getElem (by omega)⟩
    have hz : w'.frozen? ⟨g, a, none⟩ = false := by simp [World.frozen?, hg']
    have HO := Lib.hid (own_set_out ho' a (Nat.le_refl _) (.int .u8 0))
    have HK := Lib.hid ((chg_grown hb').mono (r := fun k => k = g) (fun k hk => by injection hk))
    have hk3 : ¬ (a + 1 = a) := by omega
    have hclr := run_clear1 0 g a 1 1 rfl y hy hz
    clear hcs' ho' hg' hb' hy hz
    go_wp2_with fail
    go_ret
    exact ⟨rfl, HO.out, chg_undrew (HK.out.trans (chg_set _ ⟨g, a, none⟩ _))⟩
  · go_enter Try.func38, Try.ntmps38
    go_wp2_with fail
    go_region_law (refine step_append_row _ rfl _ _ 33 (by rfl) 5 Try.underlying33 infoU8 g a (a + 1 + m + c') cur HG.out (by rfl) ⟨g, a + 1, none⟩ m _ (by rfl) news HNL.out HNC.out HN1.out (by omega) (by rw [HCS.out]; omega) ?_; intro w' hg' hb')
    have hcs' : (cur.toList.take a ++ news ++ cur.toList.drop (a + m)).toArray.size = a + 1 + m + c' := by
      have := HCS.out
      have h2 := HNL.out
      simp
      omega
    have ho' : Own 5 w' base (.slice (some ⟨g, 0, none⟩) (a + m) (a + 1 + m + c')) (l.take a ++ l.drop (a + 1)) :=
      own_of_row hg' HBM.out.1 (by have := HLM.out; simp; omega) (by omega) HBM.out.2 hcs' HFIN.out
    obtain ⟨y, hy⟩ : ∃ y, w'.cell? ⟨g, a + m, none⟩ = some y := by
      rw [cell_of_row w' g _ _ _ (0, 0) hg']
      exact ⟨_, Array.getElem?_eq_getElem (by omega)⟩
    have hz : w'.frozen? ⟨g, a + m, none⟩ = false := by simp [World.frozen?, hg']
    have HO := Lib.hid (own_set_out ho' (a + m) (Nat.le_refl _) (.int .u8 0))
    have HK := Lib.hid ((chg_grown hb').mono (r := fun k => k = g) (fun k hk => by injection hk))
    have hk1 : (a : Int) + (m : Int) ≤ (a : Int) + 1 + (m : Int) := by omega
    have hk2 : (0 : Int) ≤ (a : Int) + (m : Int) := by omega
    have hk3 : ¬ (a + 1 + m + c' = a + m) := by omega
    have hk4 : a + 1 + m - 1 = a + m := by omega
    clear hcs' ho' hg' hb'
    have hclr := run_clear1 0 g (a + m) (a + 1 + m - (a + m)) (a + 1 + m + c' - (a + m)) (by omega) y hy hz
    clear hy hz
    go_wp2_with fail
    go_ret
    rw [hk4]
    exact ⟨rfl, HO.out, chg_undrew (HK.out.trans (chg_set _ ⟨g, a + m, none⟩ _))⟩
end Go.Proofs.Ytogijioehdaefaa.Ed
