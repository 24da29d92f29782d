
/- Layer 4 (frame): the page's examples, and the laws. -/
import Derived.Test.YtfieinajkkcelaaFrmR
import Derived.Test.YtfieinajkkcelaaFrmP
namespace Go.Proofs.Ytfieinajkkcelaa.Frm
open Go.RowKit Go.Proofs.Ytfieinajkkcelaa.Mem Go.Proofs.Ytfieinajkkcelaa.CrcM Go.Proofs.Ytfieinajkkcelaa.StuffL Go.Proofs.Ytfieinajkkcelaa.FrmM

/-- equal texts -/
theorem same_yes (A B : Option Addr) (n n' ca cb : Nat) (l : List UInt8) (W : World) (hn : n = l.length) (hn' : n' = l.length) (hA : Bytes W W.heap.size A l) (hB : Bytes W W.heap.size B l) (hl : l.length ≤ maxLen) :
    Calls Try.prog 23 #[.slice A n ca, .slice B n' cb] W fun e W' => e = .returned (.bool true) ∧ Below W.heap.size W W' := by
  subst hn hn'
  refine (Oct.refSame_any A B ca cb l l _ _ W hA hB hl hl).mono ?_
  rintro e w ⟨he, hd⟩
  rw [beq_self_eq_true] at he
  exact ⟨he, hd.below _⟩

theorem wv_nil : wv [] = [126, 0, 0, 0, 0, 126] := by decide +kernel
theorem we_nil : we [] = 0 := by decide
theorem open_two : openF [126, 126] = none := by decide +kernel

/-- the greatest length of a frame -/
def mst (n : Int) : Int := if 0 ≤ n ∧ n ≤ 96 then 2 * (n + 4) + 2 else 0
theorem wv_most (b : List UInt8) (h : b.length ≤ 96) : ((wv b).length : Int) ≤ mst b.length := by
  have h1 : wv b = wrapF b := if_pos h
  have h2 := wrapF_length b
  unfold mst
  rw [if_pos (by omega), h1]
  omega

end Go.Proofs.Ytfieinajkkcelaa.Frm
