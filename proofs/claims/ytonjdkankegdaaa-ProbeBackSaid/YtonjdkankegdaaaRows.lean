/-
  No cell of these rows narrows 'for every input' (looked for: loops, veiled, ifaces, maps, wideKeys, modest, calm, conditions, laid).
  DERIVED. THE GIVEN ROWS OF THIS SEAT. 9 by the template 'for every input the law returns true; each argument reads behind the call as it read before'; 0 by the template 'total and deterministic' (their statements: YtonjdkankegdaaaTotals.lean).
  GIVEN WITH THE SEED: the statements are not yours to turn. If you find one false, say at which input.
  Laid BY PROGRAM, IN A SANDBOX (cutbox-rows.mjs): the forced cells as the released guide's own fill.sh prints them over the translation a9ff319bab1ab22e… (all of the seat's roots in one cut). By AI agents, Wed Nov 11 2026. No macro, syntax, notation, axiom, sorry.
-/
import Derived.Test.YtonjdkankegdaaaChecked
import GoSem.Claim
import GoSem.ClaimJoined
import GoSem.ClaimMapViews
import Derived.JoinedTies
import Derived.KernelRfl
namespace Go.Proofs.Ytonjdkankegdaaa
/- THE CELL 'sum', in the pinned program and in every row, IS THE sha256 OF THE DUMP (.gsa) THAT YtonjdkankegdaaaProg.lean LOADS. Nothing in Lean hashes anything: it is a label: what it is worth is what the hold of that sum in a sandbox is worth. -/
noncomputable def Try.pinned : Pinned := { name := "ytonjdkankegdaaa", sum := "a9ff319bab1ab22ef69273d89842be27b46bb1b26fa75936e1001967fbebddcb", checked := Try.checked }
namespace Rows
def none {H : Type} : Left H := { results := [], args := [] }

/-- 'kedgelaw14.SlidePuts': WHATEVER THE INPUT: true; the input reads as it did. -/
def slidePutsSpec : ChangeSpec := { name := "slidePuts", fn := fun _ => fun
  | [d1, d2] => { results := [.lit (.bool true)], args := [d1, d2] }
  | _ => none }
def slidePutsRow : OpenClaim := { program := "ytonjdkankegdaaa", sum := "a9ff319bab1ab22ef69273d89842be27b46bb1b26fa75936e1001967fbebddcb", func := "kedge/kedgelaw14.SlidePuts", spec := "slidePuts", apart := false }
def SlidePutsSaid : Prop := slidePutsRow.holds Try.pinned (OpenSpec.ofChange slidePutsSpec)

/-- ITS FALSE NEIGHBOUR: 'it returns false'. Refute it at one input. -/
def slidePutsWrong : ChangeSpec := { name := "slidePuts", fn := fun _ => fun
  | [d1, d2] => { results := [.lit (.bool false)], args := [d1, d2] }
  | _ => none }
def SlidePutsWrongFalsely : Prop := slidePutsRow.holds Try.pinned (OpenSpec.ofChange slidePutsWrong)

/-- 'kedgelaw15.TokenPuts': WHATEVER THE INPUT: true; the input reads as it did. -/
def tokenPutsSpec : ChangeSpec := { name := "tokenPuts", fn := fun _ => fun
  | [d] => { results := [.lit (.bool true)], args := [d] }
  | _ => none }
def tokenPutsRow : OpenClaim := { program := "ytonjdkankegdaaa", sum := "a9ff319bab1ab22ef69273d89842be27b46bb1b26fa75936e1001967fbebddcb", func := "kedge/kedgelaw15.TokenPuts", spec := "tokenPuts", apart := false }
def TokenPutsSaid : Prop := tokenPutsRow.holds Try.pinned (OpenSpec.ofChange tokenPutsSpec)

/-- ITS FALSE NEIGHBOUR: 'it returns false'. Refute it at one input. -/
def tokenPutsWrong : ChangeSpec := { name := "tokenPuts", fn := fun _ => fun
  | [d] => { results := [.lit (.bool false)], args := [d] }
  | _ => none }
def TokenPutsWrongFalsely : Prop := tokenPutsRow.holds Try.pinned (OpenSpec.ofChange tokenPutsWrong)

/-- 'kedgelaw13.ProbePuts': WHATEVER THE INPUT: true; the input reads as it did. -/
def probePutsSpec : ChangeSpec := { name := "probePuts", fn := fun _ => fun
  | [d] => { results := [.lit (.bool true)], args := [d] }
  | _ => none }
def probePutsRow : OpenClaim := { program := "ytonjdkankegdaaa", sum := "a9ff319bab1ab22ef69273d89842be27b46bb1b26fa75936e1001967fbebddcb", func := "kedge/kedgelaw13.ProbePuts", spec := "probePuts", apart := false }
def ProbePutsSaid : Prop := probePutsRow.holds Try.pinned (OpenSpec.ofChange probePutsSpec)

/-- ITS FALSE NEIGHBOUR: 'it returns false'. Refute it at one input. -/
def probePutsWrong : ChangeSpec := { name := "probePuts", fn := fun _ => fun
  | [d] => { results := [.lit (.bool false)], args := [d] }
  | _ => none }
def ProbePutsWrongFalsely : Prop := probePutsRow.holds Try.pinned (OpenSpec.ofChange probePutsWrong)

/-- 'kedgelaw13.ProbeGets': WHATEVER THE INPUT: true; the input reads as it did. -/
def probeGetsSpec : ChangeSpec := { name := "probeGets", fn := fun _ => fun
  | [d1, d2, d3] => { results := [.lit (.bool true)], args := [d1, d2, d3] }
  | _ => none }
def probeGetsRow : OpenClaim := { program := "ytonjdkankegdaaa", sum := "a9ff319bab1ab22ef69273d89842be27b46bb1b26fa75936e1001967fbebddcb", func := "kedge/kedgelaw13.ProbeGets", spec := "probeGets", apart := false }
def ProbeGetsSaid : Prop := probeGetsRow.holds Try.pinned (OpenSpec.ofChange probeGetsSpec)

/-- ITS FALSE NEIGHBOUR: 'it returns false'. Refute it at one input. -/
def probeGetsWrong : ChangeSpec := { name := "probeGets", fn := fun _ => fun
  | [d1, d2, d3] => { results := [.lit (.bool false)], args := [d1, d2, d3] }
  | _ => none }
def ProbeGetsWrongFalsely : Prop := probeGetsRow.holds Try.pinned (OpenSpec.ofChange probeGetsWrong)

/-- 'kedgelaw14.SlideGets': WHATEVER THE INPUT: true; the input reads as it did. -/
def slideGetsSpec : ChangeSpec := { name := "slideGets", fn := fun _ => fun
  | [d1, d2] => { results := [.lit (.bool true)], args := [d1, d2] }
  | _ => none }
def slideGetsRow : OpenClaim := { program := "ytonjdkankegdaaa", sum := "a9ff319bab1ab22ef69273d89842be27b46bb1b26fa75936e1001967fbebddcb", func := "kedge/kedgelaw14.SlideGets", spec := "slideGets", apart := false }
def SlideGetsSaid : Prop := slideGetsRow.holds Try.pinned (OpenSpec.ofChange slideGetsSpec)

/-- ITS FALSE NEIGHBOUR: 'it returns false'. Refute it at one input. -/
def slideGetsWrong : ChangeSpec := { name := "slideGets", fn := fun _ => fun
  | [d1, d2] => { results := [.lit (.bool false)], args := [d1, d2] }
  | _ => none }
def SlideGetsWrongFalsely : Prop := slideGetsRow.holds Try.pinned (OpenSpec.ofChange slideGetsWrong)

/-- 'kedgelaw15.TokenGets': WHATEVER THE INPUT: true; the input reads as it did. -/
def tokenGetsSpec : ChangeSpec := { name := "tokenGets", fn := fun _ => fun
  | [d] => { results := [.lit (.bool true)], args := [d] }
  | _ => none }
def tokenGetsRow : OpenClaim := { program := "ytonjdkankegdaaa", sum := "a9ff319bab1ab22ef69273d89842be27b46bb1b26fa75936e1001967fbebddcb", func := "kedge/kedgelaw15.TokenGets", spec := "tokenGets", unfollowed := true, recurses := true, apart := false }
def TokenGetsSaid : Prop := tokenGetsRow.holds Try.pinned (OpenSpec.ofChange tokenGetsSpec)

/-- ITS FALSE NEIGHBOUR: 'it returns false'. Refute it at one input. -/
def tokenGetsWrong : ChangeSpec := { name := "tokenGets", fn := fun _ => fun
  | [d] => { results := [.lit (.bool false)], args := [d] }
  | _ => none }
def TokenGetsWrongFalsely : Prop := tokenGetsRow.holds Try.pinned (OpenSpec.ofChange tokenGetsWrong)

/-- 'kedgelaw14.SlideBack': WHATEVER THE INPUT: true; the input reads as it did. -/
def slideBackSpec : ChangeSpec := { name := "slideBack", fn := fun _ => fun
  | [d1, d2, d3] => { results := [.lit (.bool true)], args := [d1, d2, d3] }
  | _ => none }
def slideBackRow : OpenClaim := { program := "ytonjdkankegdaaa", sum := "a9ff319bab1ab22ef69273d89842be27b46bb1b26fa75936e1001967fbebddcb", func := "kedge/kedgelaw14.SlideBack", spec := "slideBack", apart := false }
def SlideBackSaid : Prop := slideBackRow.holds Try.pinned (OpenSpec.ofChange slideBackSpec)

/-- ITS FALSE NEIGHBOUR: 'it returns false'. Refute it at one input. -/
def slideBackWrong : ChangeSpec := { name := "slideBack", fn := fun _ => fun
  | [d1, d2, d3] => { results := [.lit (.bool false)], args := [d1, d2, d3] }
  | _ => none }
def SlideBackWrongFalsely : Prop := slideBackRow.holds Try.pinned (OpenSpec.ofChange slideBackWrong)

/-- 'kedgelaw15.TokenBack': WHATEVER THE INPUT: true; the input reads as it did. -/
def tokenBackSpec : ChangeSpec := { name := "tokenBack", fn := fun _ => fun
  | [d1, d2] => { results := [.lit (.bool true)], args := [d1, d2] }
  | _ => none }
def tokenBackRow : OpenClaim := { program := "ytonjdkankegdaaa", sum := "a9ff319bab1ab22ef69273d89842be27b46bb1b26fa75936e1001967fbebddcb", func := "kedge/kedgelaw15.TokenBack", spec := "tokenBack", unfollowed := true, recurses := true, apart := false }
def TokenBackSaid : Prop := tokenBackRow.holds Try.pinned (OpenSpec.ofChange tokenBackSpec)

/-- ITS FALSE NEIGHBOUR: 'it returns false'. Refute it at one input. -/
def tokenBackWrong : ChangeSpec := { name := "tokenBack", fn := fun _ => fun
  | [d1, d2] => { results := [.lit (.bool false)], args := [d1, d2] }
  | _ => none }
def TokenBackWrongFalsely : Prop := tokenBackRow.holds Try.pinned (OpenSpec.ofChange tokenBackWrong)

/-- 'kedgelaw13.ProbeBack': WHATEVER THE INPUT: true; the input reads as it did. -/
def probeBackSpec : ChangeSpec := { name := "probeBack", fn := fun _ => fun
  | [d1, d2] => { results := [.lit (.bool true)], args := [d1, d2] }
  | _ => none }
def probeBackRow : OpenClaim := { program := "ytonjdkankegdaaa", sum := "a9ff319bab1ab22ef69273d89842be27b46bb1b26fa75936e1001967fbebddcb", func := "kedge/kedgelaw13.ProbeBack", spec := "probeBack", apart := false }
def ProbeBackSaid : Prop := probeBackRow.holds Try.pinned (OpenSpec.ofChange probeBackSpec)

/-- ITS FALSE NEIGHBOUR: 'it returns false'. Refute it at one input. -/
def probeBackWrong : ChangeSpec := { name := "probeBack", fn := fun _ => fun
  | [d1, d2] => { results := [.lit (.bool false)], args := [d1, d2] }
  | _ => none }
def ProbeBackWrongFalsely : Prop := probeBackRow.holds Try.pinned (OpenSpec.ofChange probeBackWrong)

/- THE SECOND FORM. 'bulk': how many values and letters a reading holds, each counted each time it is reached (what is shared counts as often as it is met; a slice's spare places count too). A statement '..UptoSaid' is the law's where the arguments, and the package variables that the reading takes, are together of bulk at most 1048576: NARROWER than '..Said'. Prove '..Said' where nothing that the law and all that it calls make is longer than what came in: it says more and counts as full. Else prove '..UptoSaid'. A law counts once. -/
mutual
def uptoBulk {H : Type} : DataW H → Nat
  | .lit (.string bytes) => bytes.length + 1
  | .lit _ => 1
  | .nil => 1
  | .ptr d => uptoBulk d + 1
  | .slice elems spare => uptoBulkAll elems + uptoBulkAll spare + 1
  | .agg parts => uptoBulkAll parts + 1
  | .iface _ d => uptoBulk d + 1
  | .map entries => uptoBulkEntries entries + 1
  | .held _ => 1
def uptoBulkAll {H : Type} : List (DataW H) → Nat
  | [] => 0
  | d :: r => uptoBulk d + uptoBulkAll r
def uptoBulkEntries {H : Type} : List (Lit × DataW H) → Nat
  | [] => 0
  | x :: r => uptoBulkEntry x + uptoBulkEntries r
def uptoBulkEntry {H : Type} : Lit × DataW H → Nat
  | (.string bytes, d) => bytes.length + uptoBulk d + 1
  | (_, d) => uptoBulk d + 1
 end
def uptoSmall : (H : Type) → List (DataW H) → Bool := fun _ ds => decide (uptoBulkAll ds ≤ 1048576)
def OpenSpec.upto (s : _root_.Go.ChangeSpec) : _root_.Go.OpenSpec := { _root_.Go.OpenSpec.ofChange s with cond := some uptoSmall }

/-- 'kedgelaw14.SlidePuts', WHERE WHAT IT READS IS OF BULK AT MOST 1048576: true; the input reads as it did. -/
def slidePutsUptoRow : OpenClaim := { program := "ytonjdkankegdaaa", sum := "a9ff319bab1ab22ef69273d89842be27b46bb1b26fa75936e1001967fbebddcb", func := "kedge/kedgelaw14.SlidePuts", spec := "slidePuts", apart := false, narrowed := true }
def SlidePutsUptoSaid : Prop := slidePutsUptoRow.holds Try.pinned (OpenSpec.upto slidePutsSpec)

/-- 'kedgelaw15.TokenPuts', WHERE WHAT IT READS IS OF BULK AT MOST 1048576: true; the input reads as it did. -/
def tokenPutsUptoRow : OpenClaim := { program := "ytonjdkankegdaaa", sum := "a9ff319bab1ab22ef69273d89842be27b46bb1b26fa75936e1001967fbebddcb", func := "kedge/kedgelaw15.TokenPuts", spec := "tokenPuts", apart := false, narrowed := true }
def TokenPutsUptoSaid : Prop := tokenPutsUptoRow.holds Try.pinned (OpenSpec.upto tokenPutsSpec)

/-- 'kedgelaw13.ProbePuts', WHERE WHAT IT READS IS OF BULK AT MOST 1048576: true; the input reads as it did. -/
def probePutsUptoRow : OpenClaim := { program := "ytonjdkankegdaaa", sum := "a9ff319bab1ab22ef69273d89842be27b46bb1b26fa75936e1001967fbebddcb", func := "kedge/kedgelaw13.ProbePuts", spec := "probePuts", apart := false, narrowed := true }
def ProbePutsUptoSaid : Prop := probePutsUptoRow.holds Try.pinned (OpenSpec.upto probePutsSpec)

/-- 'kedgelaw13.ProbeGets', WHERE WHAT IT READS IS OF BULK AT MOST 1048576: true; the input reads as it did. -/
def probeGetsUptoRow : OpenClaim := { program := "ytonjdkankegdaaa", sum := "a9ff319bab1ab22ef69273d89842be27b46bb1b26fa75936e1001967fbebddcb", func := "kedge/kedgelaw13.ProbeGets", spec := "probeGets", apart := false, narrowed := true }
def ProbeGetsUptoSaid : Prop := probeGetsUptoRow.holds Try.pinned (OpenSpec.upto probeGetsSpec)

/-- 'kedgelaw14.SlideGets', WHERE WHAT IT READS IS OF BULK AT MOST 1048576: true; the input reads as it did. -/
def slideGetsUptoRow : OpenClaim := { program := "ytonjdkankegdaaa", sum := "a9ff319bab1ab22ef69273d89842be27b46bb1b26fa75936e1001967fbebddcb", func := "kedge/kedgelaw14.SlideGets", spec := "slideGets", apart := false, narrowed := true }
def SlideGetsUptoSaid : Prop := slideGetsUptoRow.holds Try.pinned (OpenSpec.upto slideGetsSpec)

/-- 'kedgelaw15.TokenGets', WHERE WHAT IT READS IS OF BULK AT MOST 1048576: true; the input reads as it did. -/
def tokenGetsUptoRow : OpenClaim := { program := "ytonjdkankegdaaa", sum := "a9ff319bab1ab22ef69273d89842be27b46bb1b26fa75936e1001967fbebddcb", func := "kedge/kedgelaw15.TokenGets", spec := "tokenGets", unfollowed := true, recurses := true, apart := false, narrowed := true }
def TokenGetsUptoSaid : Prop := tokenGetsUptoRow.holds Try.pinned (OpenSpec.upto tokenGetsSpec)

/-- 'kedgelaw14.SlideBack', WHERE WHAT IT READS IS OF BULK AT MOST 1048576: true; the input reads as it did. -/
def slideBackUptoRow : OpenClaim := { program := "ytonjdkankegdaaa", sum := "a9ff319bab1ab22ef69273d89842be27b46bb1b26fa75936e1001967fbebddcb", func := "kedge/kedgelaw14.SlideBack", spec := "slideBack", apart := false, narrowed := true }
def SlideBackUptoSaid : Prop := slideBackUptoRow.holds Try.pinned (OpenSpec.upto slideBackSpec)

/-- 'kedgelaw15.TokenBack', WHERE WHAT IT READS IS OF BULK AT MOST 1048576: true; the input reads as it did. -/
def tokenBackUptoRow : OpenClaim := { program := "ytonjdkankegdaaa", sum := "a9ff319bab1ab22ef69273d89842be27b46bb1b26fa75936e1001967fbebddcb", func := "kedge/kedgelaw15.TokenBack", spec := "tokenBack", unfollowed := true, recurses := true, apart := false, narrowed := true }
def TokenBackUptoSaid : Prop := tokenBackUptoRow.holds Try.pinned (OpenSpec.upto tokenBackSpec)

/-- 'kedgelaw13.ProbeBack', WHERE WHAT IT READS IS OF BULK AT MOST 1048576: true; the input reads as it did. -/
def probeBackUptoRow : OpenClaim := { program := "ytonjdkankegdaaa", sum := "a9ff319bab1ab22ef69273d89842be27b46bb1b26fa75936e1001967fbebddcb", func := "kedge/kedgelaw13.ProbeBack", spec := "probeBack", apart := false, narrowed := true }
def ProbeBackUptoSaid : Prop := probeBackUptoRow.holds Try.pinned (OpenSpec.upto probeBackSpec)

end Rows
end Go.Proofs.Ytonjdkankegdaaa
