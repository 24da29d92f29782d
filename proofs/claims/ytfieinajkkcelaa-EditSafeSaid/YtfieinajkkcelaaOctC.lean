
/- Layer 1 (octet): what Cut, Join, Order and their references compute. -/
import Derived.Test.YtfieinajkkcelaaOctB
import Derived.WalkSpells
import Derived.Deep.RegionWith
import Derived.Deep.DeepFit
namespace Go.Proofs.Ytfieinajkkcelaa.Oct
open Go.RowKit Go.Proofs.Ytfieinajkkcelaa.Mem

theorem Clone_any (A : Option Addr) (cap : Nat) (l : List UInt8) (W : World) (hA : Bytes W W.heap.size A l) (hl : l.length ≤ 140737488355328) :
    Calls Try.prog 41 #[.slice A l.length cap] W (Gives W l) := by
  have heq := fun (w : World) (a : Option Addr) (n c : Nat) => Lib.run_eql_slice_nil (P := Try.prog) w 22 5 a n c 0 0 Try.underlying22
  cases A with
  | none =>
    have := hA.none_nil
    subst this
    go_enter Try.func41, Try.ntmps41
    go_wp2
    go_ret
    exact ⟨_, rfl, Own.nil _ _ _, Below.refl _ _⟩
  | some ad =>
    have hol := own_lit 5 W (base := W.heap.size) (Nat.le_refl _) [] #[] rfl (by simp [maxLen])
    go_enter Try.func41, Try.ntmps41
    go_wp2_with (at_builtin; refine wpList_app _ rfl _ _ 22 rfl 5 Try.underlying22 infoU8 W.heap.size _ [] rfl hol W.heap.size (some ad) _ cap l rfl rfl (hA.below (((Below.refl W.heap.size W).alloc (Nat.le_refl _) _)) (Nat.le_refl _)) (by simp) (by simp; omega) ?_)
    intro v' w' ho' hg
    have hb' := hol.grown ((Below.refl W.heap.size W).alloc (Nat.le_refl _) _) hg (Nat.le_refl _) (Nat.le_refl _)
    clear hol hg
    go_wp2
    go_ret
    exact ⟨_, rfl, by simpa using ho', hb'⟩

theorem Clone_n (A : Option Addr) (n cap : Nat) (l : List UInt8) (W : World) (hn : n = l.length) (hA : Bytes W W.heap.size A l) (hl : l.length ≤ 140737488355328) :
    Calls Try.prog 41 #[.slice A n cap] W (Gives W l) := by
  subst hn
  exact Clone_any A cap l W hA hl

/-- two slices of the call's own, and a bool -/
def Gives2 (w : World) (l m : List UInt8) (b : Bool) (e : Ending) (w' : World) : Prop :=
  ∃ u v, e = .returned (.tuple #[u, v, .bool b]) ∧ Own 5 w' w.heap.size u l ∧ Own 5 w' w.heap.size v m ∧ Below w.heap.size w w'

/-- what Cut answers -/
def cutOk (l : List UInt8) (n : Int) : Bool := decide (0 ≤ n ∧ n ≤ l.length)
def cutA (l : List UInt8) (n : Int) : List UInt8 := if cutOk l n = true then l.take n.toNat else []
def cutB (l : List UInt8) (n : Int) : List UInt8 := if cutOk l n = true then l.drop n.toNat else []
theorem cut_no {l : List UInt8} {n : Int} (h : ¬ (0 ≤ n ∧ n ≤ l.length)) : cutOk l n = false ∧ cutA l n = [] ∧ cutB l n = [] := by
  have : cutOk l n = false := by unfold cutOk; simp only [decide_eq_false_iff_not]; exact h
  unfold cutA cutB
  rw [this]
  exact ⟨rfl, if_neg (by decide), if_neg (by decide)⟩
theorem cut_yes {l : List UInt8} {k : Nat} (h : k ≤ l.length) : cutOk l k = true ∧ cutA l k = l.take k ∧ cutB l k = l.drop k := by
  have : cutOk l k = true := by unfold cutOk; simp only [decide_eq_true_eq]; omega
  unfold cutA cutB
  rw [this, Int.toNat_natCast]
  exact ⟨rfl, if_pos rfl, if_pos rfl⟩

set_option maxHeartbeats 1000000 in
theorem Cut_any (A : Option Addr) (cap : Nat) (l : List UInt8) (n : Int) (W : World) (hA : Bytes W W.heap.size A l) (hc : l.length ≤ cap) (hcm : cap ≤ maxLen) (hl : l.length ≤ 140737488355328) :
    Calls Try.prog 71 #[.slice A l.length cap, .int .i64 n] W (Gives2 W (cutA l n) (cutB l n) (cutOk l n)) := by
  unfold maxLen at hcm
  by_cases hin : 0 ≤ n ∧ n ≤ l.length
  · obtain ⟨k, rfl⟩ : ∃ k : Nat, (k : Int) = n := ⟨n.toNat, by omega⟩
    have hk : k ≤ l.length := by omega
    clear hin
    have HY := Lib.hid (cut_yes hk)
    have hT := hA.take hk
    have hD := hA.drop hk
    have hlt : (l.take k).length = k := by rw [List.length_take]; omega
    have hld : (l.drop k).length = l.length - k := List.length_drop
    by_cases hck : cap = k
    · have hk2 : k = l.length := by omega
      subst hk2
      subst hck
      have H1 := Lib.hid hl
      have H2 := Lib.hid (show ([] : List UInt8).length ≤ 140737488355328 by simp)
      have e1 : l.take l.length = l := List.take_length
      have e2 : l.drop l.length = [] := List.drop_length
      have E1 := Lib.hid e1; have E2 := Lib.hid e2
      clear hlt hld hT hD e1 e2
      have hne : (0 : Nat) ≠ l.length + 1 := by omega
      go_enter Try.func71, Try.ntmps71
      go_wp2_with fail
      go_region_with (go_simp; (first
        | (go_at_call_of 41 (Value.slice A l.length l.length); refine (Clone_n A l.length l.length l _ rfl ?_ H1.out).mono ?_; exact hA; rintro e w1 ⟨v1, rfl, ho1, hb1⟩)
        | (go_at_call 41; refine (Clone_n _ 0 _ [] _ rfl ?_ H2.out).mono ?_; exact Bytes.nil _ _ _; rintro e w2 ⟨v2, rfl, ho2, hb2⟩)))
      all_goals go_wp2_with fail
      all_goals go_ret3
      all_goals refine ⟨_, _, by rw [HY.out.1]; rfl, ?_, ?_, ?_⟩
      all_goals first
        | exact (congrArg (Own _ w2 W.heap.size _) (HY.out.2.1.trans E1.out)).mpr (ho1.below hb2)
        | exact (congrArg (Own _ w2 W.heap.size _) (HY.out.2.2.trans E2.out)).mpr (ho2.mono hb1.size)
        | exact below_undrew (below_next hb1 hb2)
    · have HLT := Lib.hid hlt.symm
      have HLD := Lib.hid hld.symm
      have H1 := Lib.hid (show (l.take k).length ≤ 140737488355328 by omega)
      have H2 := Lib.hid (show (l.drop k).length ≤ 140737488355328 by omega)
      clear hlt hld
      have hne : ¬ (k = cap) := fun e => hck e.symm
      go_enter Try.func71, Try.ntmps71
      go_wp2_with fail
      go_region_with (go_simp; (first
        | (go_at_call_of 41 (Value.slice A k cap); go_loud (refine (Clone_n A k cap (l.take k) _ HLT.out ?_ H1.out).mono ?_; exact hT; rintro e w1 ⟨v1, rfl, ho1, hb1⟩))
        | (go_at_call 41; go_loud (refine (Clone_n _ (l.length - k) _ (l.drop k) _ HLD.out ?_ H2.out).mono ?_; exact Bytes.later (w := W.drew) hD hb1; rintro e w2 ⟨v2, rfl, ho2, hb2⟩))))
      all_goals go_wp2_with fail
      all_goals go_ret3
      all_goals refine ⟨_, _, by rw [HY.out.1]; rfl, ?_, ?_, ?_⟩
      all_goals first
        | exact (congrArg (Own _ w2 W.heap.size _) HY.out.2.1).mpr (ho1.below hb2)
        | exact (congrArg (Own _ w2 W.heap.size _) HY.out.2.2).mpr (ho2.mono hb1.size)
        | exact below_undrew (below_next hb1 hb2)
  · have HY := Lib.hid (cut_no hin)
    by_cases h0 : n < 0
    · clear hin
      go_enter Try.func71, Try.ntmps71
      go_wp2_with fail
      go_ret3
      refine ⟨_, _, by rw [HY.out.1]; rfl, ?_, ?_, Below.refl _ _⟩
      · rw [HY.out.2.1]; exact Own.nil _ _ _
      · rw [HY.out.2.2]; exact Own.nil _ _ _
    · have h1 : (l.length : Int) < n := by omega
      clear hin
      go_enter Try.func71, Try.ntmps71
      go_wp2_with fail
      go_ret3
      refine ⟨_, _, by rw [HY.out.1]; rfl, ?_, ?_, Below.refl _ _⟩
      · rw [HY.out.2.1]; exact Own.nil _ _ _
      · rw [HY.out.2.2]; exact Own.nil _ _ _
end Go.Proofs.Ytfieinajkkcelaa.Oct
