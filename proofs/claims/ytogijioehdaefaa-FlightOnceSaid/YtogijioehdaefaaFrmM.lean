
/- Frames as lists of bytes. No program in sight. -/
import Derived.Test.YtogijioehdaefaaCrcB
import Derived.Test.YtogijioehdaefaaStuffL
namespace Go.Proofs.Ytogijioehdaefaa.FrmM
open Go.Proofs.Ytogijioehdaefaa.Mem Go.Proofs.Ytogijioehdaefaa.CrcM Go.Proofs.Ytogijioehdaefaa.StuffL

/-- bytes as a frame -/
def wrapF (b : List UInt8) : List UInt8 := 126 :: (put (cput b) ++ [126])
def wv (b : List UInt8) : List UInt8 := if b.length ≤ 96 then wrapF b else []
def we (b : List UInt8) : Int := if b.length ≤ 96 then 0 else 2
/-- may these bytes be what a frame carries, with their sum? -/
def good (x : List UInt8) : Bool := cok x && decide ((cbody x).length ≤ 96)
/-- what stands between two flags -/
def bodyF (s : List UInt8) : Option (List UInt8) :=
  match unput s with
  | none => none
  | some x => if good x = true then some (cbody x) else none
/-- is it a frame's shape? -/
def flags (w : List UInt8) : Bool := decide (2 ≤ w.length) && (nth8 w 0 == 126 && nth8 w (w.length - 1) == 126)
def openF (w : List UInt8) : Option (List UInt8) := if flags w = true then bodyF ((w.take (w.length - 1)).drop 1) else none
theorem wv_le (b : List UInt8) : (wv b).length ≤ 202 := by
  unfold wv
  split
  · unfold wrapF
    have := (put_length (cput b)).2
    rw [cput_length] at this
    simp; omega
  · simp
theorem wrapF_length (b : List UInt8) : (wrapF b).length ≤ 2 * (b.length + 4) + 2 := by
  unfold wrapF
  have := (put_length (cput b)).2
  rw [cput_length] at this
  simp; omega
theorem bodyF_none {s : List UInt8} (h : unput s = none) : bodyF s = none := by unfold bodyF; rw [h]
theorem bodyF_yes {s x : List UInt8} (h : unput s = some x) (hg : good x = true) : bodyF s = some (cbody x) := by unfold bodyF; rw [h]; exact if_pos hg
theorem bodyF_no {s x : List UInt8} (h : unput s = some x) (hg : good x = false) : bodyF s = none := by unfold bodyF; rw [h]; exact if_neg (by rw [hg]; decide)
theorem openF_yes {w : List UInt8} (h : flags w = true) : openF w = bodyF ((w.take (w.length - 1)).drop 1) := if_pos h
theorem openF_no {w : List UInt8} (h : flags w = false) : openF w = none := if_neg (by rw [h]; decide)
end Go.Proofs.Ytogijioehdaefaa.FrmM
