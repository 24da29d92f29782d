
/- Layer 4 (frame): the functions' walks. -/
import Derived.Test.YtogijioehdaefaaFrmM
import Derived.Test.YtogijioehdaefaaCrcP
import Derived.Test.YtogijioehdaefaaCrcN
import Derived.Test.YtogijioehdaefaaStuffG
import Derived.Test.YtogijioehdaefaaPktA
namespace Go.Proofs.Ytogijioehdaefaa.Frm
open Go.RowKit Go.Proofs.Ytogijioehdaefaa.Mem Go.Proofs.Ytogijioehdaefaa.CrcM Go.Proofs.Ytogijioehdaefaa.StuffL Go.Proofs.Ytogijioehdaefaa.FrmM


theorem lit_text_at (E : TypeId) (w : World) (g : Nat) (hg : g = w.heap.size) (l : List UInt8) (cs : Array Value) (hcs : cs = (l.map bv).toArray) (hm : l.length ≤ maxLen) {n : Nat} (hn : n = l.length) : IsText (w.alloc (.cells cs E)) (.slice (some ⟨g, 0, none⟩) n n) l := by
  subst hg
  exact lit_text E w l cs hcs hm hn

theorem cput_nil : cput [] = [0, 0, 0, 0] := by decide +kernel
theorem cok_nil : cok [0, 0, 0, 0] = true := by decide +kernel

end Go.Proofs.Ytogijioehdaefaa.Frm
