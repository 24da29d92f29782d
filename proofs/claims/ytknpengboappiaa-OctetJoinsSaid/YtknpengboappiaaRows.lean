/-
  No cell of these rows narrows 'for every input' (looked for: loops, veiled, ifaces, maps, wideKeys, modest, calm, conditions, laid).
  DERIVED. THE GIVEN ROWS OF THIS SEAT. 10 by the template 'for every input the law returns true; each argument reads behind the call as it read before'; 0 by the template 'total and deterministic' (their statements: YtknpengboappiaaTotals.lean).
  GIVEN WITH THE SEED: the statements are not yours to turn. If you find one false, say at which input.
  Laid BY PROGRAM, IN A SANDBOX (cutbox-rows.mjs): the forced cells as the released guide's own fill.sh prints them over the translation 5f1208acdb6ae839… (all of the seat's roots in one cut). By AI agents, Wed Nov 11 2026. No macro, syntax, notation, axiom, sorry.
-/
import Derived.Test.YtknpengboappiaaChecked
import GoSem.Claim
import GoSem.ClaimJoined
import GoSem.ClaimMapViews
import Derived.JoinedTies
import Derived.KernelRfl
namespace Go.Proofs.Ytknpengboappiaa
/- THE CELL 'sum', in the pinned program and in every row, IS THE sha256 OF THE DUMP (.gsa) THAT YtknpengboappiaaProg.lean LOADS. Nothing in Lean hashes anything: it is a label: what it is worth is what the hold of that sum in a sandbox is worth. -/
noncomputable def Try.pinned : Pinned := { name := "ytknpengboappiaa", sum := "5f1208acdb6ae83906e1ba9928faf1ac7f80ec282bc9bdeda2ebeb4c23a6c131", checked := Try.checked }
namespace Rows
def none {H : Type} : Left H := { results := [], args := [] }

/-- 'kedgelaw03.StuffPuts': WHATEVER THE INPUT: true; the input reads as it did. -/
def stuffPutsSpec : ChangeSpec := { name := "stuffPuts", fn := fun _ => fun
  | [d] => { results := [.lit (.bool true)], args := [d] }
  | _ => none }
def stuffPutsRow : OpenClaim := { program := "ytknpengboappiaa", sum := "5f1208acdb6ae83906e1ba9928faf1ac7f80ec282bc9bdeda2ebeb4c23a6c131", func := "kedge/kedgelaw03.StuffPuts", spec := "stuffPuts", apart := false }
def StuffPutsSaid : Prop := stuffPutsRow.holds Try.pinned (OpenSpec.ofChange stuffPutsSpec)

/-- ITS FALSE NEIGHBOUR: 'it returns false'. Refute it at one input. -/
def stuffPutsWrong : ChangeSpec := { name := "stuffPuts", fn := fun _ => fun
  | [d] => { results := [.lit (.bool false)], args := [d] }
  | _ => none }
def StuffPutsWrongFalsely : Prop := stuffPutsRow.holds Try.pinned (OpenSpec.ofChange stuffPutsWrong)

/-- 'kedgelaw03.StuffGets': WHATEVER THE INPUT: true; the input reads as it did. -/
def stuffGetsSpec : ChangeSpec := { name := "stuffGets", fn := fun _ => fun
  | [d] => { results := [.lit (.bool true)], args := [d] }
  | _ => none }
def stuffGetsRow : OpenClaim := { program := "ytknpengboappiaa", sum := "5f1208acdb6ae83906e1ba9928faf1ac7f80ec282bc9bdeda2ebeb4c23a6c131", func := "kedge/kedgelaw03.StuffGets", spec := "stuffGets", apart := false }
def StuffGetsSaid : Prop := stuffGetsRow.holds Try.pinned (OpenSpec.ofChange stuffGetsSpec)

/-- ITS FALSE NEIGHBOUR: 'it returns false'. Refute it at one input. -/
def stuffGetsWrong : ChangeSpec := { name := "stuffGets", fn := fun _ => fun
  | [d] => { results := [.lit (.bool false)], args := [d] }
  | _ => none }
def StuffGetsWrongFalsely : Prop := stuffGetsRow.holds Try.pinned (OpenSpec.ofChange stuffGetsWrong)

/-- 'kedgelaw03.StuffBack': WHATEVER THE INPUT: true; the input reads as it did. -/
def stuffBackSpec : ChangeSpec := { name := "stuffBack", fn := fun _ => fun
  | [d1, d2] => { results := [.lit (.bool true)], args := [d1, d2] }
  | _ => none }
def stuffBackRow : OpenClaim := { program := "ytknpengboappiaa", sum := "5f1208acdb6ae83906e1ba9928faf1ac7f80ec282bc9bdeda2ebeb4c23a6c131", func := "kedge/kedgelaw03.StuffBack", spec := "stuffBack", apart := false }
def StuffBackSaid : Prop := stuffBackRow.holds Try.pinned (OpenSpec.ofChange stuffBackSpec)

/-- ITS FALSE NEIGHBOUR: 'it returns false'. Refute it at one input. -/
def stuffBackWrong : ChangeSpec := { name := "stuffBack", fn := fun _ => fun
  | [d1, d2] => { results := [.lit (.bool false)], args := [d1, d2] }
  | _ => none }
def StuffBackWrongFalsely : Prop := stuffBackRow.holds Try.pinned (OpenSpec.ofChange stuffBackWrong)

/-- 'kedgelaw03.StuffPlain': WHATEVER THE INPUT: true; the input reads as it did. -/
def stuffPlainSpec : ChangeSpec := { name := "stuffPlain", fn := fun _ => fun
  | [d] => { results := [.lit (.bool true)], args := [d] }
  | _ => none }
def stuffPlainRow : OpenClaim := { program := "ytknpengboappiaa", sum := "5f1208acdb6ae83906e1ba9928faf1ac7f80ec282bc9bdeda2ebeb4c23a6c131", func := "kedge/kedgelaw03.StuffPlain", spec := "stuffPlain", apart := false }
def StuffPlainSaid : Prop := stuffPlainRow.holds Try.pinned (OpenSpec.ofChange stuffPlainSpec)

/-- ITS FALSE NEIGHBOUR: 'it returns false'. Refute it at one input. -/
def stuffPlainWrong : ChangeSpec := { name := "stuffPlain", fn := fun _ => fun
  | [d] => { results := [.lit (.bool false)], args := [d] }
  | _ => none }
def StuffPlainWrongFalsely : Prop := stuffPlainRow.holds Try.pinned (OpenSpec.ofChange stuffPlainWrong)

/-- 'kedgelaw01.OctetPuts': WHATEVER THE INPUT: true; the input reads as it did. -/
def octetPutsSpec : ChangeSpec := { name := "octetPuts", fn := fun _ => fun
  | [d1, d2] => { results := [.lit (.bool true)], args := [d1, d2] }
  | _ => none }
def octetPutsRow : OpenClaim := { program := "ytknpengboappiaa", sum := "5f1208acdb6ae83906e1ba9928faf1ac7f80ec282bc9bdeda2ebeb4c23a6c131", func := "kedge/kedgelaw01.OctetPuts", spec := "octetPuts", inPlace := ["internal/bytealg.Compare"], apart := false }
def OctetPutsSaid : Prop := octetPutsRow.holds Try.pinned (OpenSpec.ofChange octetPutsSpec)

/-- ITS FALSE NEIGHBOUR: 'it returns false'. Refute it at one input. -/
def octetPutsWrong : ChangeSpec := { name := "octetPuts", fn := fun _ => fun
  | [d1, d2] => { results := [.lit (.bool false)], args := [d1, d2] }
  | _ => none }
def OctetPutsWrongFalsely : Prop := octetPutsRow.holds Try.pinned (OpenSpec.ofChange octetPutsWrong)

/-- 'kedgelaw01.OctetNumber': WHATEVER THE INPUT: true; the input reads as it did. -/
def octetNumberSpec : ChangeSpec := { name := "octetNumber", fn := fun _ => fun
  | [d] => { results := [.lit (.bool true)], args := [d] }
  | _ => none }
def octetNumberRow : OpenClaim := { program := "ytknpengboappiaa", sum := "5f1208acdb6ae83906e1ba9928faf1ac7f80ec282bc9bdeda2ebeb4c23a6c131", func := "kedge/kedgelaw01.OctetNumber", spec := "octetNumber", inPlace := ["internal/bytealg.Compare"], apart := false }
def OctetNumberSaid : Prop := octetNumberRow.holds Try.pinned (OpenSpec.ofChange octetNumberSpec)

/-- ITS FALSE NEIGHBOUR: 'it returns false'. Refute it at one input. -/
def octetNumberWrong : ChangeSpec := { name := "octetNumber", fn := fun _ => fun
  | [d] => { results := [.lit (.bool false)], args := [d] }
  | _ => none }
def OctetNumberWrongFalsely : Prop := octetNumberRow.holds Try.pinned (OpenSpec.ofChange octetNumberWrong)

/-- 'kedgelaw01.OctetBack': WHATEVER THE INPUT: true; the input reads as it did. -/
def octetBackSpec : ChangeSpec := { name := "octetBack", fn := fun _ => fun
  | [d1, d2] => { results := [.lit (.bool true)], args := [d1, d2] }
  | _ => none }
def octetBackRow : OpenClaim := { program := "ytknpengboappiaa", sum := "5f1208acdb6ae83906e1ba9928faf1ac7f80ec282bc9bdeda2ebeb4c23a6c131", func := "kedge/kedgelaw01.OctetBack", spec := "octetBack", inPlace := ["internal/bytealg.Compare"], apart := false }
def OctetBackSaid : Prop := octetBackRow.holds Try.pinned (OpenSpec.ofChange octetBackSpec)

/-- ITS FALSE NEIGHBOUR: 'it returns false'. Refute it at one input. -/
def octetBackWrong : ChangeSpec := { name := "octetBack", fn := fun _ => fun
  | [d1, d2] => { results := [.lit (.bool false)], args := [d1, d2] }
  | _ => none }
def OctetBackWrongFalsely : Prop := octetBackRow.holds Try.pinned (OpenSpec.ofChange octetBackWrong)

/-- 'kedgelaw01.OctetJoins': WHATEVER THE INPUT: true; the input reads as it did. -/
def octetJoinsSpec : ChangeSpec := { name := "octetJoins", fn := fun _ => fun
  | [d1, d2, d3] => { results := [.lit (.bool true)], args := [d1, d2, d3] }
  | _ => none }
def octetJoinsRow : OpenClaim := { program := "ytknpengboappiaa", sum := "5f1208acdb6ae83906e1ba9928faf1ac7f80ec282bc9bdeda2ebeb4c23a6c131", func := "kedge/kedgelaw01.OctetJoins", spec := "octetJoins", inPlace := ["internal/bytealg.Compare"], apart := false }
def OctetJoinsSaid : Prop := octetJoinsRow.holds Try.pinned (OpenSpec.ofChange octetJoinsSpec)

/-- ITS FALSE NEIGHBOUR: 'it returns false'. Refute it at one input. -/
def octetJoinsWrong : ChangeSpec := { name := "octetJoins", fn := fun _ => fun
  | [d1, d2, d3] => { results := [.lit (.bool false)], args := [d1, d2, d3] }
  | _ => none }
def OctetJoinsWrongFalsely : Prop := octetJoinsRow.holds Try.pinned (OpenSpec.ofChange octetJoinsWrong)

/-- 'kedgelaw01.OctetOrders': WHATEVER THE INPUT: true; the input reads as it did. -/
def octetOrdersSpec : ChangeSpec := { name := "octetOrders", fn := fun _ => fun
  | [d1, d2] => { results := [.lit (.bool true)], args := [d1, d2] }
  | _ => none }
def octetOrdersRow : OpenClaim := { program := "ytknpengboappiaa", sum := "5f1208acdb6ae83906e1ba9928faf1ac7f80ec282bc9bdeda2ebeb4c23a6c131", func := "kedge/kedgelaw01.OctetOrders", spec := "octetOrders", inPlace := ["internal/bytealg.Compare"], apart := false }
def OctetOrdersSaid : Prop := octetOrdersRow.holds Try.pinned (OpenSpec.ofChange octetOrdersSpec)

/-- ITS FALSE NEIGHBOUR: 'it returns false'. Refute it at one input. -/
def octetOrdersWrong : ChangeSpec := { name := "octetOrders", fn := fun _ => fun
  | [d1, d2] => { results := [.lit (.bool false)], args := [d1, d2] }
  | _ => none }
def OctetOrdersWrongFalsely : Prop := octetOrdersRow.holds Try.pinned (OpenSpec.ofChange octetOrdersWrong)

/-- 'kedgelaw01.OctetTells': WHATEVER THE INPUT: true; the input reads as it did. -/
def octetTellsSpec : ChangeSpec := { name := "octetTells", fn := fun _ => fun
  | [d1, d2] => { results := [.lit (.bool true)], args := [d1, d2] }
  | _ => none }
def octetTellsRow : OpenClaim := { program := "ytknpengboappiaa", sum := "5f1208acdb6ae83906e1ba9928faf1ac7f80ec282bc9bdeda2ebeb4c23a6c131", func := "kedge/kedgelaw01.OctetTells", spec := "octetTells", inPlace := ["internal/bytealg.Compare"], apart := false }
def OctetTellsSaid : Prop := octetTellsRow.holds Try.pinned (OpenSpec.ofChange octetTellsSpec)

/-- ITS FALSE NEIGHBOUR: 'it returns false'. Refute it at one input. -/
def octetTellsWrong : ChangeSpec := { name := "octetTells", fn := fun _ => fun
  | [d1, d2] => { results := [.lit (.bool false)], args := [d1, d2] }
  | _ => none }
def OctetTellsWrongFalsely : Prop := octetTellsRow.holds Try.pinned (OpenSpec.ofChange octetTellsWrong)

/- THE SECOND FORM. 'bulk': how many values and letters a reading holds, each counted each time it is reached (what is shared counts as often as it is met; a slice's spare places count too). A statement '..UptoSaid' is the law's where the arguments, and the package variables that the reading takes, are together of bulk at most 1048576: NARROWER than '..Said'. Prove '..Said' where nothing that the law and all that it calls make is longer than what came in: it says more and counts as full. Else prove '..UptoSaid'. A law counts once. -/
mutual
def uptoBulk {H : Type} : DataW H → Nat
  | .lit (.string bytes) => bytes.length + 1
  | .lit _ => 1
  | .nil => 1
  | .ptr d => uptoBulk d + 1
  | .slice elems spare => uptoBulkAll elems + uptoBulkAll spare + 1
  | .agg parts => uptoBulkAll parts + 1
  | .iface _ d => uptoBulk d + 1
  | .map entries => uptoBulkEntries entries + 1
  | .held _ => 1
def uptoBulkAll {H : Type} : List (DataW H) → Nat
  | [] => 0
  | d :: r => uptoBulk d + uptoBulkAll r
def uptoBulkEntries {H : Type} : List (Lit × DataW H) → Nat
  | [] => 0
  | x :: r => uptoBulkEntry x + uptoBulkEntries r
def uptoBulkEntry {H : Type} : Lit × DataW H → Nat
  | (.string bytes, d) => bytes.length + uptoBulk d + 1
  | (_, d) => uptoBulk d + 1
 end
def uptoSmall : (H : Type) → List (DataW H) → Bool := fun _ ds => decide (uptoBulkAll ds ≤ 1048576)
def OpenSpec.upto (s : _root_.Go.ChangeSpec) : _root_.Go.OpenSpec := { _root_.Go.OpenSpec.ofChange s with cond := some uptoSmall }

/-- 'kedgelaw03.StuffPuts', WHERE WHAT IT READS IS OF BULK AT MOST 1048576: true; the input reads as it did. -/
def stuffPutsUptoRow : OpenClaim := { program := "ytknpengboappiaa", sum := "5f1208acdb6ae83906e1ba9928faf1ac7f80ec282bc9bdeda2ebeb4c23a6c131", func := "kedge/kedgelaw03.StuffPuts", spec := "stuffPuts", apart := false, narrowed := true }
def StuffPutsUptoSaid : Prop := stuffPutsUptoRow.holds Try.pinned (OpenSpec.upto stuffPutsSpec)

/-- 'kedgelaw03.StuffGets', WHERE WHAT IT READS IS OF BULK AT MOST 1048576: true; the input reads as it did. -/
def stuffGetsUptoRow : OpenClaim := { program := "ytknpengboappiaa", sum := "5f1208acdb6ae83906e1ba9928faf1ac7f80ec282bc9bdeda2ebeb4c23a6c131", func := "kedge/kedgelaw03.StuffGets", spec := "stuffGets", apart := false, narrowed := true }
def StuffGetsUptoSaid : Prop := stuffGetsUptoRow.holds Try.pinned (OpenSpec.upto stuffGetsSpec)

/-- 'kedgelaw03.StuffBack', WHERE WHAT IT READS IS OF BULK AT MOST 1048576: true; the input reads as it did. -/
def stuffBackUptoRow : OpenClaim := { program := "ytknpengboappiaa", sum := "5f1208acdb6ae83906e1ba9928faf1ac7f80ec282bc9bdeda2ebeb4c23a6c131", func := "kedge/kedgelaw03.StuffBack", spec := "stuffBack", apart := false, narrowed := true }
def StuffBackUptoSaid : Prop := stuffBackUptoRow.holds Try.pinned (OpenSpec.upto stuffBackSpec)

/-- 'kedgelaw03.StuffPlain', WHERE WHAT IT READS IS OF BULK AT MOST 1048576: true; the input reads as it did. -/
def stuffPlainUptoRow : OpenClaim := { program := "ytknpengboappiaa", sum := "5f1208acdb6ae83906e1ba9928faf1ac7f80ec282bc9bdeda2ebeb4c23a6c131", func := "kedge/kedgelaw03.StuffPlain", spec := "stuffPlain", apart := false, narrowed := true }
def StuffPlainUptoSaid : Prop := stuffPlainUptoRow.holds Try.pinned (OpenSpec.upto stuffPlainSpec)

/-- 'kedgelaw01.OctetPuts', WHERE WHAT IT READS IS OF BULK AT MOST 1048576: true; the input reads as it did. -/
def octetPutsUptoRow : OpenClaim := { program := "ytknpengboappiaa", sum := "5f1208acdb6ae83906e1ba9928faf1ac7f80ec282bc9bdeda2ebeb4c23a6c131", func := "kedge/kedgelaw01.OctetPuts", spec := "octetPuts", inPlace := ["internal/bytealg.Compare"], apart := false, narrowed := true }
def OctetPutsUptoSaid : Prop := octetPutsUptoRow.holds Try.pinned (OpenSpec.upto octetPutsSpec)

/-- 'kedgelaw01.OctetNumber', WHERE WHAT IT READS IS OF BULK AT MOST 1048576: true; the input reads as it did. -/
def octetNumberUptoRow : OpenClaim := { program := "ytknpengboappiaa", sum := "5f1208acdb6ae83906e1ba9928faf1ac7f80ec282bc9bdeda2ebeb4c23a6c131", func := "kedge/kedgelaw01.OctetNumber", spec := "octetNumber", inPlace := ["internal/bytealg.Compare"], apart := false, narrowed := true }
def OctetNumberUptoSaid : Prop := octetNumberUptoRow.holds Try.pinned (OpenSpec.upto octetNumberSpec)

/-- 'kedgelaw01.OctetBack', WHERE WHAT IT READS IS OF BULK AT MOST 1048576: true; the input reads as it did. -/
def octetBackUptoRow : OpenClaim := { program := "ytknpengboappiaa", sum := "5f1208acdb6ae83906e1ba9928faf1ac7f80ec282bc9bdeda2ebeb4c23a6c131", func := "kedge/kedgelaw01.OctetBack", spec := "octetBack", inPlace := ["internal/bytealg.Compare"], apart := false, narrowed := true }
def OctetBackUptoSaid : Prop := octetBackUptoRow.holds Try.pinned (OpenSpec.upto octetBackSpec)

/-- 'kedgelaw01.OctetJoins', WHERE WHAT IT READS IS OF BULK AT MOST 1048576: true; the input reads as it did. -/
def octetJoinsUptoRow : OpenClaim := { program := "ytknpengboappiaa", sum := "5f1208acdb6ae83906e1ba9928faf1ac7f80ec282bc9bdeda2ebeb4c23a6c131", func := "kedge/kedgelaw01.OctetJoins", spec := "octetJoins", inPlace := ["internal/bytealg.Compare"], apart := false, narrowed := true }
def OctetJoinsUptoSaid : Prop := octetJoinsUptoRow.holds Try.pinned (OpenSpec.upto octetJoinsSpec)

/-- 'kedgelaw01.OctetOrders', WHERE WHAT IT READS IS OF BULK AT MOST 1048576: true; the input reads as it did. -/
def octetOrdersUptoRow : OpenClaim := { program := "ytknpengboappiaa", sum := "5f1208acdb6ae83906e1ba9928faf1ac7f80ec282bc9bdeda2ebeb4c23a6c131", func := "kedge/kedgelaw01.OctetOrders", spec := "octetOrders", inPlace := ["internal/bytealg.Compare"], apart := false, narrowed := true }
def OctetOrdersUptoSaid : Prop := octetOrdersUptoRow.holds Try.pinned (OpenSpec.upto octetOrdersSpec)

/-- 'kedgelaw01.OctetTells', WHERE WHAT IT READS IS OF BULK AT MOST 1048576: true; the input reads as it did. -/
def octetTellsUptoRow : OpenClaim := { program := "ytknpengboappiaa", sum := "5f1208acdb6ae83906e1ba9928faf1ac7f80ec282bc9bdeda2ebeb4c23a6c131", func := "kedge/kedgelaw01.OctetTells", spec := "octetTells", inPlace := ["internal/bytealg.Compare"], apart := false, narrowed := true }
def OctetTellsUptoSaid : Prop := octetTellsUptoRow.holds Try.pinned (OpenSpec.upto octetTellsSpec)

end Rows
end Go.Proofs.Ytknpengboappiaa
