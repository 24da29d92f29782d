
/- Layer 1 (octet): what Cut, Join, Order and their references compute. -/
import Derived.Test.YtogijioehdaefaaOctB
import Derived.WalkSpells
import Derived.Deep.RegionWith
import Derived.Deep.DeepFit
namespace Go.Proofs.Ytogijioehdaefaa.Oct
open Go.RowKit Go.Proofs.Ytogijioehdaefaa.Mem

theorem Clone_any (A : Option Addr) (cap : Nat) (l : List UInt8) (W : World) (hA : Bytes W W.heap.size A l) (hl : l.length ≤ 140737488355328) :
    Calls Try.prog 26 #[.slice A l.length cap] W (Gives W l) := by
  have heq := fun (w : World) (a : Option Addr) (n c : Nat) => Lib.run_eql_slice_nil (P := Try.prog) w 33 5 a n c 0 0 Try.underlying33
  cases A with
  | none =>
    have := hA.none_nil
    subst this
    go_enter Try.func26, Try.ntmps26
    go_wp2
    go_ret
    exact ⟨_, rfl, Own.nil _ _ _, Below.refl _ _⟩
  | some ad =>
    have hol := own_lit 5 W (base := W.heap.size) (Nat.le_refl _) [] #[] rfl (by simp [maxLen])
    go_enter Try.func26, Try.ntmps26
    go_wp2_with (at_builtin; refine wpList_app _ rfl _ _ 33 rfl 5 Try.underlying33 infoU8 W.heap.size _ [] rfl hol W.heap.size (some ad) _ cap l rfl rfl (hA.below (((Below.refl W.heap.size W).alloc (Nat.le_refl _) _)) (Nat.le_refl _)) (by simp) (by simp; omega) ?_)
    intro v' w' ho' hg
    have hb' := hol.grown ((Below.refl W.heap.size W).alloc (Nat.le_refl _) _) hg (Nat.le_refl _) (Nat.le_refl _)
    clear hol hg
    go_wp2
    go_ret
    exact ⟨_, rfl, by simpa using ho', hb'⟩

theorem Clone_n (A : Option Addr) (n cap : Nat) (l : List UInt8) (W : World) (hn : n = l.length) (hA : Bytes W W.heap.size A l) (hl : l.length ≤ 140737488355328) :
    Calls Try.prog 26 #[.slice A n cap] W (Gives W l) := by
  subst hn
  exact Clone_any A cap l W hA hl

/-- two slices of the call's own, and a bool -/
def Gives2 (w : World) (l m : List UInt8) (b : Bool) (e : Ending) (w' : World) : Prop :=
  ∃ u v, e = .returned (.tuple #[u, v, .bool b]) ∧ Own 5 w' w.heap.size u l ∧ Own 5 w' w.heap.size v m ∧ Below w.heap.size w w'

/-- what Cut answers -/
def cutOk (l : List UInt8) (n : Int) : Bool := decide (0 ≤ n ∧ n ≤ l.length)
def cutA (l : List UInt8) (n : Int) : List UInt8 := if cutOk l n = true then l.take n.toNat else []
def cutB (l : List UInt8) (n : Int) : List UInt8 := if cutOk l n = true then l.drop n.toNat else []
theorem cut_no {l : List UInt8} {n : Int} (h : ¬ (0 ≤ n ∧ n ≤ l.length)) : cutOk l n = false ∧ cutA l n = [] ∧ cutB l n = [] := by
  have : cutOk l n = false := by unfold cutOk; simp only [decide_eq_false_iff_not]; exact h
  unfold cutA cutB
  rw [this]
  exact ⟨rfl, if_neg (by decide), if_neg (by decide)⟩
theorem cut_yes {l : List UInt8} {k : Nat} (h : k ≤ l.length) : cutOk l k = true ∧ cutA l k = l.take k ∧ cutB l k = l.drop k := by
  have : cutOk l k = true := by unfold cutOk; simp only [decide_eq_true_eq]; omega
  unfold cutA cutB
  rw [this, Int.toNat_natCast]
  exact ⟨rfl, if_pos rfl, if_pos rfl⟩

end Go.Proofs.Ytogijioehdaefaa.Oct
