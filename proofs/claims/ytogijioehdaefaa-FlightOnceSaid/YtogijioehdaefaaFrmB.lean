
/- Layer 4 (frame): what Body and Open answer. -/
import Derived.Test.YtogijioehdaefaaFrmA
namespace Go.Proofs.Ytogijioehdaefaa.Frm
open Go.RowKit Go.Proofs.Ytogijioehdaefaa.Mem Go.Proofs.Ytogijioehdaefaa.CrcM Go.Proofs.Ytogijioehdaefaa.StuffL Go.Proofs.Ytogijioehdaefaa.FrmM

theorem ge_none {w w' : World} {r : Option (List UInt8)} {no : Int} (h : r = none) (hb : Below w.heap.size w w') : Stuff.GivesE w r no (.returned (.tuple #[.slice none 0 0, .int .i64 no])) w' := by
  subst h
  exact ⟨_, rfl, Own.nil _ _ _, hb⟩
theorem ge_some {w w' : World} {r : Option (List UInt8)} {no : Int} {l : List UInt8} {v : Value} (h : r = some l) (ho : Own 5 w' w.heap.size v l) (hb : Below w.heap.size w w') : Stuff.GivesE w r no (.returned (.tuple #[v, .int .i64 0])) w' := by
  subst h
  exact ⟨_, rfl, ho, hb⟩

end Go.Proofs.Ytogijioehdaefaa.Frm
