
/- Layer 6 (edit): the document's One: a byte fewer. -/
import Derived.Test.YtogijioehdaefaaEdF
namespace Go.Proofs.Ytogijioehdaefaa.Ed
open Go.RowKit Go.Proofs.Ytogijioehdaefaa.Mem Go.Proofs.Ytogijioehdaefaa.Oct Go.Proofs.Ytogijioehdaefaa.Pkt Go.Proofs.Ytogijioehdaefaa.Def

set_option maxHeartbeats 4000000 in
set_option maxRecDepth 100000 in
theorem refOne_del (g n cap i : Nat) (c : UInt8) (l : List UInt8) (W : World) (hn : n = l.length) (hA : Bytes W W.heap.size (some ⟨g, 0, none⟩) l) (hi : i < n) (hc : n ≤ cap) (h5 : n ≤ 1000000) :
    Calls Try.prog 36 #[.slice (some ⟨g, 0, none⟩) n cap, .agg #[.int .i64 2, .int .i64 i, .int .u8 (c.toNat : Int)]] W (Gives W (l.take i ++ l.drop (i + 1))) := by
  obtain ⟨w1, hw1⟩ : ∃ w1, w1 = W.alloc (.cells #[.int .i64 2, .int .i64 i, .int .u8 (c.toNat : Int)] 78) := ⟨_, rfl⟩
  have hb1 : Below W.heap.size W w1 := by rw [hw1]; exact below_alloc (Below.refl _ _) _
  have hd1 : w1.cell? ⟨W.heap.size, 1, none⟩ = some (.int .i64 i) := by rw [hw1]; simp [go_sem]
  have hq0 : W.heap.size < w1.heap.size := by rw [hw1]; simp
  have hq2 : ¬ W.heap.size = w1.heap.size := by omega
  have hq4 : ¬ w1.heap.size = W.heap.size := by omega
  have hA1 := hA.later hb1
  have HLO := Lib.hid (hA1.take (k := i) (by omega))
  have HHI := Lib.hid (hA1.drop (k := i + 1) (by omega))
  have HB1 := Lib.hid hb1
  have HN := Lib.hid (And.intro hn (And.intro hi h5))
  have hiI : (i : Int) < (n : Int) := by omega
  have hiI2 : ¬ ((n : Int) < (i : Int)) := by omega
  have hcI : (n : Int) ≤ (cap : Int) := by omega
  have hicI : (i : Int) ≤ (cap : Int) := by omega
  have hiI3 : (i : Int) + 1 ≤ (n : Int) := by omega
  have hiI4 : (0 : Int) ≤ (i : Int) + 1 := by omega
  have hw : IntKind.i64.wrap ((i : Int) + 1) = (i : Int) + 1 := by rw [IntKind.wrap_i64]; omega
  have hiI5 : ((i : Int) + 1).toNat = i + 1 := by omega
  clear hA hA1 hb1
  by_cases hq : cap = i + 1
  · have HHJ : Hid (Bytes w1 w1.heap.size (some ⟨g, 0, none⟩) (l.drop (i + 1))) := by
      have : l.drop (i + 1) = [] := by rw [List.drop_eq_nil_iff]; omega
      rw [this]
      exact Bytes.nil _ _ _
    obtain rfl : n = i + 1 := by omega
    subst hq
    clear hn hi hc h5
    go_enter Try.func36, Try.ntmps36
    go_wp2_with fail
    rw [← hw1]
    clear hw1
    go_region_held3 (fun w' => w'.cell? ⟨W.heap.size, 1, none⟩ = some (.int .i64 i))
      (first | go_keep | exact hd4)
      ((first
        | (refine step_app2 _ (by rfl) _ _ 33 (by rfl) 5 Try.underlying33 infoU8 w1 _ [] (by rfl)
             (Own.drew (own_lit_at 5 w1 _ rfl (Nat.le_refl _) [] #[] rfl (by simp [maxLen])))
             (Below.drew (below_alloc (Below.refl w1.heap.size w1) _))
             _ i (i + 1) (l.take i) (by rfl) (by have ⟨_, _, _⟩ := HN.out; simp; omega) (HLO.out.later (Below.drew (below_alloc (Below.refl w1.heap.size w1) _))) (by have ⟨_, _, _⟩ := HN.out; simp; omega) ?_
           intro v3 w3 ho3 hb3 hg3
           have hd4 : w3.cell? ⟨W.heap.size, 1, none⟩ = some (.int .i64 i) := by rw [(bcell hb3).1 _ _ hq0]; exact hd1
           have hq6 : W.heap.size < w3.heap.size := Nat.lt_of_lt_of_le hq0 hb3.size)
        | (refine step_app2 _ (by rfl) _ _ 33 (by rfl) 5 Try.underlying33 infoU8 w1 _ ([] ++ l.take i) (by rfl) ho3 hb3
             _ 0 0 (l.drop (i + 1)) (by rfl) (by have ⟨_, _, _⟩ := HN.out; simp; omega) (HHJ.out.later hb3) (by have ⟨_, _, _⟩ := HN.out; simp; omega) ?_
           intro v5 w5 ho5 hb5 hg5
           have hd4 : w5.cell? ⟨W.heap.size, 1, none⟩ = some (.int .i64 i) := by rw [(bcell hb5).1 _ _ hq0]; exact hd1)
        | fail))
    all_goals go_wp2_with fail
    all_goals go_ret
    all_goals exact gives_of HB1.out (by simp) ho5 hb5
  · have HHJ := Lib.hid (show Bytes w1 w1.heap.size (some ⟨g, i + 1, none⟩) (l.drop (i + 1)) by have := HHI.out; rwa [Option.map_some, Addr.add_lit, Nat.zero_add] at this)
    clear hn h5
    go_enter Try.func36, Try.ntmps36
    go_wp2_with fail
    rw [← hw1]
    clear hw1
    go_region_held3 (fun w' => w'.cell? ⟨W.heap.size, 1, none⟩ = some (.int .i64 i))
      (first | go_keep | exact hd4)
      ((first
        | (refine step_app2 _ (by rfl) _ _ 33 (by rfl) 5 Try.underlying33 infoU8 w1 _ [] (by rfl)
             (Own.drew (own_lit_at 5 w1 _ rfl (Nat.le_refl _) [] #[] rfl (by simp [maxLen])))
             (Below.drew (below_alloc (Below.refl w1.heap.size w1) _))
             _ i cap (l.take i) (by rfl) (by have ⟨_, _, _⟩ := HN.out; simp; omega) (HLO.out.later (Below.drew (below_alloc (Below.refl w1.heap.size w1) _))) (by have ⟨_, _, _⟩ := HN.out; simp; omega) ?_
           intro v3 w3 ho3 hb3 hg3
           have hd4 : w3.cell? ⟨W.heap.size, 1, none⟩ = some (.int .i64 i) := by rw [(bcell hb3).1 _ _ hq0]; exact hd1
           have hq6 : W.heap.size < w3.heap.size := Nat.lt_of_lt_of_le hq0 hb3.size)
        | (refine step_app2 _ (by rfl) _ _ 33 (by rfl) 5 Try.underlying33 infoU8 w1 _ ([] ++ l.take i) (by rfl) ho3 hb3
             _ (n - (i + 1)) (cap - (i + 1)) (l.drop (i + 1)) (by rfl) (by have ⟨_, _, _⟩ := HN.out; simp; omega) (HHJ.out.later hb3) (by have ⟨_, _, _⟩ := HN.out; simp; omega) ?_
           intro v5 w5 ho5 hb5 hg5
           have hd4 : w5.cell? ⟨W.heap.size, 1, none⟩ = some (.int .i64 i) := by rw [(bcell hb5).1 _ _ hq0]; exact hd1)
        | fail))
    all_goals go_wp2_with fail
    all_goals go_ret
    all_goals exact gives_of HB1.out (by simp) ho5 hb5
end Go.Proofs.Ytogijioehdaefaa.Ed
