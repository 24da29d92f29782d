
/- Layer 2 (crc): bytes with their sum, and bytes checked. -/
import Derived.Test.YtogijioehdaefaaCrcS
import Derived.Test.YtogijioehdaefaaOctD
namespace Go.Proofs.Ytogijioehdaefaa.Crc
open Go.RowKit Go.Proofs.Ytogijioehdaefaa.Mem Go.Proofs.Ytogijioehdaefaa.Oct Go.Proofs.Ytogijioehdaefaa.CrcM

theorem flat1 (l : List UInt8) : [l].flatten = l := by simp

/-- what Check answers -/
def GivesC (w : World) (l : List UInt8) (e : Ending) (w' : World) : Prop := ∃ v, e = .returned (.tuple #[v, .bool (cok l)]) ∧ Own 5 w' w.heap.size v (cbody l) ∧ Below w.heap.size w w'
theorem gives_no {w w' : World} {l : List UInt8} (h : cok l = false) (hb : Below w.heap.size w w') : GivesC w l (.returned (.tuple #[.slice none 0 0, .bool false])) w' := by
  refine ⟨_, by rw [h], ?_, hb⟩
  unfold cbody
  rw [h]
  exact Own.nil _ _ _

end Go.Proofs.Ytogijioehdaefaa.Crc
