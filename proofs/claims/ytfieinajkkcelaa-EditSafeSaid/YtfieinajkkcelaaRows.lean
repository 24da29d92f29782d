/-
  No cell of these rows narrows 'for every input' (looked for: loops, veiled, ifaces, maps, wideKeys, modest, calm, conditions, laid).
  DERIVED. THE GIVEN ROWS OF THIS SEAT. 9 by the template 'for every input the law returns true; each argument reads behind the call as it read before'; 0 by the template 'total and deterministic' (their statements: YtfieinajkkcelaaTotals.lean).
  GIVEN WITH THE SEED: the statements are not yours to turn. If you find one false, say at which input.
  Laid BY PROGRAM, IN A SANDBOX (cutbox-rows.mjs): the forced cells as the released guide's own fill.sh prints them over the translation 395bad5f15efef06… (all of the seat's roots in one cut). By AI agents, Wed Nov 11 2026. No macro, syntax, notation, axiom, sorry.
-/
import Derived.Test.YtfieinajkkcelaaChecked
import GoSem.Claim
import GoSem.ClaimJoined
import GoSem.ClaimMapViews
import Derived.JoinedTies
import Derived.KernelRfl
namespace Go.Proofs.Ytfieinajkkcelaa
/- THE CELL 'sum', in the pinned program and in every row, IS THE sha256 OF THE DUMP (.gsa) THAT YtfieinajkkcelaaProg.lean LOADS. Nothing in Lean hashes anything: it is a label: what it is worth is what the hold of that sum in a sandbox is worth. -/
noncomputable def Try.pinned : Pinned := { name := "ytfieinajkkcelaa", sum := "395bad5f15efef068b0b3399638c2145f74915bc48518357bf51993708b44dd3", checked := Try.checked }
namespace Rows
def none {H : Type} : Left H := { results := [], args := [] }

/-- 'kedgelaw05.DeframeOnly': WHATEVER THE INPUT: true; the input reads as it did. -/
def deframeOnlySpec : ChangeSpec := { name := "deframeOnly", fn := fun _ => fun
  | [d1, d2, d3] => { results := [.lit (.bool true)], args := [d1, d2, d3] }
  | _ => none }
def deframeOnlyRow : OpenClaim := { program := "ytfieinajkkcelaa", sum := "395bad5f15efef068b0b3399638c2145f74915bc48518357bf51993708b44dd3", func := "kedge/kedgelaw05.DeframeOnly", spec := "deframeOnly", apart := false }
def DeframeOnlySaid : Prop := deframeOnlyRow.holds Try.pinned (OpenSpec.ofChange deframeOnlySpec)

/-- ITS FALSE NEIGHBOUR: 'it returns false'. Refute it at one input. -/
def deframeOnlyWrong : ChangeSpec := { name := "deframeOnly", fn := fun _ => fun
  | [d1, d2, d3] => { results := [.lit (.bool false)], args := [d1, d2, d3] }
  | _ => none }
def DeframeOnlyWrongFalsely : Prop := deframeOnlyRow.holds Try.pinned (OpenSpec.ofChange deframeOnlyWrong)

/-- 'kedgelaw05.DeframeFinds': WHATEVER THE INPUT: true; the input reads as it did. -/
def deframeFindsSpec : ChangeSpec := { name := "deframeFinds", fn := fun _ => fun
  | [d] => { results := [.lit (.bool true)], args := [d] }
  | _ => none }
def deframeFindsRow : OpenClaim := { program := "ytfieinajkkcelaa", sum := "395bad5f15efef068b0b3399638c2145f74915bc48518357bf51993708b44dd3", func := "kedge/kedgelaw05.DeframeFinds", spec := "deframeFinds", apart := false }
def DeframeFindsSaid : Prop := deframeFindsRow.holds Try.pinned (OpenSpec.ofChange deframeFindsSpec)

/-- ITS FALSE NEIGHBOUR: 'it returns false'. Refute it at one input. -/
def deframeFindsWrong : ChangeSpec := { name := "deframeFinds", fn := fun _ => fun
  | [d] => { results := [.lit (.bool false)], args := [d] }
  | _ => none }
def DeframeFindsWrongFalsely : Prop := deframeFindsRow.holds Try.pinned (OpenSpec.ofChange deframeFindsWrong)

/-- 'kedgelaw05.DeframeComes': WHATEVER THE INPUT: true; the input reads as it did. -/
def deframeComesSpec : ChangeSpec := { name := "deframeComes", fn := fun _ => fun
  | [d1, d2] => { results := [.lit (.bool true)], args := [d1, d2] }
  | _ => none }
def deframeComesRow : OpenClaim := { program := "ytfieinajkkcelaa", sum := "395bad5f15efef068b0b3399638c2145f74915bc48518357bf51993708b44dd3", func := "kedge/kedgelaw05.DeframeComes", spec := "deframeComes", apart := false }
def DeframeComesSaid : Prop := deframeComesRow.holds Try.pinned (OpenSpec.ofChange deframeComesSpec)

/-- ITS FALSE NEIGHBOUR: 'it returns false'. Refute it at one input. -/
def deframeComesWrong : ChangeSpec := { name := "deframeComes", fn := fun _ => fun
  | [d1, d2] => { results := [.lit (.bool false)], args := [d1, d2] }
  | _ => none }
def DeframeComesWrongFalsely : Prop := deframeComesRow.holds Try.pinned (OpenSpec.ofChange deframeComesWrong)

/-- 'kedgelaw05.DeframePieces': WHATEVER THE INPUT: true; the input reads as it did. -/
def deframePiecesSpec : ChangeSpec := { name := "deframePieces", fn := fun _ => fun
  | [d1, d2] => { results := [.lit (.bool true)], args := [d1, d2] }
  | _ => none }
def deframePiecesRow : OpenClaim := { program := "ytfieinajkkcelaa", sum := "395bad5f15efef068b0b3399638c2145f74915bc48518357bf51993708b44dd3", func := "kedge/kedgelaw05.DeframePieces", spec := "deframePieces", apart := false }
def DeframePiecesSaid : Prop := deframePiecesRow.holds Try.pinned (OpenSpec.ofChange deframePiecesSpec)

/-- ITS FALSE NEIGHBOUR: 'it returns false'. Refute it at one input. -/
def deframePiecesWrong : ChangeSpec := { name := "deframePieces", fn := fun _ => fun
  | [d1, d2] => { results := [.lit (.bool false)], args := [d1, d2] }
  | _ => none }
def DeframePiecesWrongFalsely : Prop := deframePiecesRow.holds Try.pinned (OpenSpec.ofChange deframePiecesWrong)

/-- 'kedgelaw05.DeframeNil': WHATEVER THE INPUT: true; the input reads as it did. -/
def deframeNilSpec : ChangeSpec := { name := "deframeNil", fn := fun _ => fun
  | [d] => { results := [.lit (.bool true)], args := [d] }
  | _ => none }
def deframeNilRow : OpenClaim := { program := "ytfieinajkkcelaa", sum := "395bad5f15efef068b0b3399638c2145f74915bc48518357bf51993708b44dd3", func := "kedge/kedgelaw05.DeframeNil", spec := "deframeNil", apart := false }
def DeframeNilSaid : Prop := deframeNilRow.holds Try.pinned (OpenSpec.ofChange deframeNilSpec)

/-- ITS FALSE NEIGHBOUR: 'it returns false'. Refute it at one input. -/
def deframeNilWrong : ChangeSpec := { name := "deframeNil", fn := fun _ => fun
  | [d] => { results := [.lit (.bool false)], args := [d] }
  | _ => none }
def DeframeNilWrongFalsely : Prop := deframeNilRow.holds Try.pinned (OpenSpec.ofChange deframeNilWrong)

/-- 'kedgelaw06.EditDoes': WHATEVER THE INPUT: true; the input reads as it did. -/
def editDoesSpec : ChangeSpec := { name := "editDoes", fn := fun _ => fun
  | [d1, d2] => { results := [.lit (.bool true)], args := [d1, d2] }
  | _ => none }
def editDoesRow : OpenClaim := { program := "ytfieinajkkcelaa", sum := "395bad5f15efef068b0b3399638c2145f74915bc48518357bf51993708b44dd3", func := "kedge/kedgelaw06.EditDoes", spec := "editDoes", inPlace := ["slices.overlaps[byte]"], unfollowed := true, recurses := true, apart := false }
def EditDoesSaid : Prop := editDoesRow.holds Try.pinned (OpenSpec.ofChange editDoesSpec)

/-- ITS FALSE NEIGHBOUR: 'it returns false'. Refute it at one input. -/
def editDoesWrong : ChangeSpec := { name := "editDoes", fn := fun _ => fun
  | [d1, d2] => { results := [.lit (.bool false)], args := [d1, d2] }
  | _ => none }
def EditDoesWrongFalsely : Prop := editDoesRow.holds Try.pinned (OpenSpec.ofChange editDoesWrong)

/-- 'kedgelaw06.EditMilds': WHATEVER THE INPUT: true; the input reads as it did. -/
def editMildsSpec : ChangeSpec := { name := "editMilds", fn := fun _ => fun
  | [d1, d2] => { results := [.lit (.bool true)], args := [d1, d2] }
  | _ => none }
def editMildsRow : OpenClaim := { program := "ytfieinajkkcelaa", sum := "395bad5f15efef068b0b3399638c2145f74915bc48518357bf51993708b44dd3", func := "kedge/kedgelaw06.EditMilds", spec := "editMilds", inPlace := ["slices.overlaps[byte]"], unfollowed := true, recurses := true, apart := false }
def EditMildsSaid : Prop := editMildsRow.holds Try.pinned (OpenSpec.ofChange editMildsSpec)

/-- ITS FALSE NEIGHBOUR: 'it returns false'. Refute it at one input. -/
def editMildsWrong : ChangeSpec := { name := "editMilds", fn := fun _ => fun
  | [d1, d2] => { results := [.lit (.bool false)], args := [d1, d2] }
  | _ => none }
def EditMildsWrongFalsely : Prop := editMildsRow.holds Try.pinned (OpenSpec.ofChange editMildsWrong)

/-- 'kedgelaw06.EditForged': WHATEVER THE INPUT: true; the input reads as it did. -/
def editForgedSpec : ChangeSpec := { name := "editForged", fn := fun _ => fun
  | [d1, d2] => { results := [.lit (.bool true)], args := [d1, d2] }
  | _ => none }
def editForgedRow : OpenClaim := { program := "ytfieinajkkcelaa", sum := "395bad5f15efef068b0b3399638c2145f74915bc48518357bf51993708b44dd3", func := "kedge/kedgelaw06.EditForged", spec := "editForged", inPlace := ["slices.overlaps[byte]"], unfollowed := true, recurses := true, apart := false }
def EditForgedSaid : Prop := editForgedRow.holds Try.pinned (OpenSpec.ofChange editForgedSpec)

/-- ITS FALSE NEIGHBOUR: 'it returns false'. Refute it at one input. -/
def editForgedWrong : ChangeSpec := { name := "editForged", fn := fun _ => fun
  | [d1, d2] => { results := [.lit (.bool false)], args := [d1, d2] }
  | _ => none }
def EditForgedWrongFalsely : Prop := editForgedRow.holds Try.pinned (OpenSpec.ofChange editForgedWrong)

/-- 'kedgelaw06.EditSafe': WHATEVER THE INPUT: true; the input reads as it did. -/
def editSafeSpec : ChangeSpec := { name := "editSafe", fn := fun _ => fun
  | [d1, d2] => { results := [.lit (.bool true)], args := [d1, d2] }
  | _ => none }
def editSafeRow : OpenClaim := { program := "ytfieinajkkcelaa", sum := "395bad5f15efef068b0b3399638c2145f74915bc48518357bf51993708b44dd3", func := "kedge/kedgelaw06.EditSafe", spec := "editSafe", inPlace := ["slices.overlaps[byte]"], unfollowed := true, recurses := true, apart := false }
def EditSafeSaid : Prop := editSafeRow.holds Try.pinned (OpenSpec.ofChange editSafeSpec)

/-- ITS FALSE NEIGHBOUR: 'it returns false'. Refute it at one input. -/
def editSafeWrong : ChangeSpec := { name := "editSafe", fn := fun _ => fun
  | [d1, d2] => { results := [.lit (.bool false)], args := [d1, d2] }
  | _ => none }
def EditSafeWrongFalsely : Prop := editSafeRow.holds Try.pinned (OpenSpec.ofChange editSafeWrong)

/- THE SECOND FORM. 'bulk': how many values and letters a reading holds, each counted each time it is reached (what is shared counts as often as it is met; a slice's spare places count too). A statement '..UptoSaid' is the law's where the arguments, and the package variables that the reading takes, are together of bulk at most 1048576: NARROWER than '..Said'. Prove '..Said' where nothing that the law and all that it calls make is longer than what came in: it says more and counts as full. Else prove '..UptoSaid'. A law counts once. -/
mutual
def uptoBulk {H : Type} : DataW H → Nat
  | .lit (.string bytes) => bytes.length + 1
  | .lit _ => 1
  | .nil => 1
  | .ptr d => uptoBulk d + 1
  | .slice elems spare => uptoBulkAll elems + uptoBulkAll spare + 1
  | .agg parts => uptoBulkAll parts + 1
  | .iface _ d => uptoBulk d + 1
  | .map entries => uptoBulkEntries entries + 1
  | .held _ => 1
def uptoBulkAll {H : Type} : List (DataW H) → Nat
  | [] => 0
  | d :: r => uptoBulk d + uptoBulkAll r
def uptoBulkEntries {H : Type} : List (Lit × DataW H) → Nat
  | [] => 0
  | x :: r => uptoBulkEntry x + uptoBulkEntries r
def uptoBulkEntry {H : Type} : Lit × DataW H → Nat
  | (.string bytes, d) => bytes.length + uptoBulk d + 1
  | (_, d) => uptoBulk d + 1
 end
def uptoSmall : (H : Type) → List (DataW H) → Bool := fun _ ds => decide (uptoBulkAll ds ≤ 1048576)
def OpenSpec.upto (s : _root_.Go.ChangeSpec) : _root_.Go.OpenSpec := { _root_.Go.OpenSpec.ofChange s with cond := some uptoSmall }

/-- 'kedgelaw05.DeframeOnly', WHERE WHAT IT READS IS OF BULK AT MOST 1048576: true; the input reads as it did. -/
def deframeOnlyUptoRow : OpenClaim := { program := "ytfieinajkkcelaa", sum := "395bad5f15efef068b0b3399638c2145f74915bc48518357bf51993708b44dd3", func := "kedge/kedgelaw05.DeframeOnly", spec := "deframeOnly", apart := false, narrowed := true }
def DeframeOnlyUptoSaid : Prop := deframeOnlyUptoRow.holds Try.pinned (OpenSpec.upto deframeOnlySpec)

/-- 'kedgelaw05.DeframeFinds', WHERE WHAT IT READS IS OF BULK AT MOST 1048576: true; the input reads as it did. -/
def deframeFindsUptoRow : OpenClaim := { program := "ytfieinajkkcelaa", sum := "395bad5f15efef068b0b3399638c2145f74915bc48518357bf51993708b44dd3", func := "kedge/kedgelaw05.DeframeFinds", spec := "deframeFinds", apart := false, narrowed := true }
def DeframeFindsUptoSaid : Prop := deframeFindsUptoRow.holds Try.pinned (OpenSpec.upto deframeFindsSpec)

/-- 'kedgelaw05.DeframeComes', WHERE WHAT IT READS IS OF BULK AT MOST 1048576: true; the input reads as it did. -/
def deframeComesUptoRow : OpenClaim := { program := "ytfieinajkkcelaa", sum := "395bad5f15efef068b0b3399638c2145f74915bc48518357bf51993708b44dd3", func := "kedge/kedgelaw05.DeframeComes", spec := "deframeComes", apart := false, narrowed := true }
def DeframeComesUptoSaid : Prop := deframeComesUptoRow.holds Try.pinned (OpenSpec.upto deframeComesSpec)

/-- 'kedgelaw05.DeframePieces', WHERE WHAT IT READS IS OF BULK AT MOST 1048576: true; the input reads as it did. -/
def deframePiecesUptoRow : OpenClaim := { program := "ytfieinajkkcelaa", sum := "395bad5f15efef068b0b3399638c2145f74915bc48518357bf51993708b44dd3", func := "kedge/kedgelaw05.DeframePieces", spec := "deframePieces", apart := false, narrowed := true }
def DeframePiecesUptoSaid : Prop := deframePiecesUptoRow.holds Try.pinned (OpenSpec.upto deframePiecesSpec)

/-- 'kedgelaw05.DeframeNil', WHERE WHAT IT READS IS OF BULK AT MOST 1048576: true; the input reads as it did. -/
def deframeNilUptoRow : OpenClaim := { program := "ytfieinajkkcelaa", sum := "395bad5f15efef068b0b3399638c2145f74915bc48518357bf51993708b44dd3", func := "kedge/kedgelaw05.DeframeNil", spec := "deframeNil", apart := false, narrowed := true }
def DeframeNilUptoSaid : Prop := deframeNilUptoRow.holds Try.pinned (OpenSpec.upto deframeNilSpec)

/-- 'kedgelaw06.EditDoes', WHERE WHAT IT READS IS OF BULK AT MOST 1048576: true; the input reads as it did. -/
def editDoesUptoRow : OpenClaim := { program := "ytfieinajkkcelaa", sum := "395bad5f15efef068b0b3399638c2145f74915bc48518357bf51993708b44dd3", func := "kedge/kedgelaw06.EditDoes", spec := "editDoes", inPlace := ["slices.overlaps[byte]"], unfollowed := true, recurses := true, apart := false, narrowed := true }
def EditDoesUptoSaid : Prop := editDoesUptoRow.holds Try.pinned (OpenSpec.upto editDoesSpec)

/-- 'kedgelaw06.EditMilds', WHERE WHAT IT READS IS OF BULK AT MOST 1048576: true; the input reads as it did. -/
def editMildsUptoRow : OpenClaim := { program := "ytfieinajkkcelaa", sum := "395bad5f15efef068b0b3399638c2145f74915bc48518357bf51993708b44dd3", func := "kedge/kedgelaw06.EditMilds", spec := "editMilds", inPlace := ["slices.overlaps[byte]"], unfollowed := true, recurses := true, apart := false, narrowed := true }
def EditMildsUptoSaid : Prop := editMildsUptoRow.holds Try.pinned (OpenSpec.upto editMildsSpec)

/-- 'kedgelaw06.EditForged', WHERE WHAT IT READS IS OF BULK AT MOST 1048576: true; the input reads as it did. -/
def editForgedUptoRow : OpenClaim := { program := "ytfieinajkkcelaa", sum := "395bad5f15efef068b0b3399638c2145f74915bc48518357bf51993708b44dd3", func := "kedge/kedgelaw06.EditForged", spec := "editForged", inPlace := ["slices.overlaps[byte]"], unfollowed := true, recurses := true, apart := false, narrowed := true }
def EditForgedUptoSaid : Prop := editForgedUptoRow.holds Try.pinned (OpenSpec.upto editForgedSpec)

/-- 'kedgelaw06.EditSafe', WHERE WHAT IT READS IS OF BULK AT MOST 1048576: true; the input reads as it did. -/
def editSafeUptoRow : OpenClaim := { program := "ytfieinajkkcelaa", sum := "395bad5f15efef068b0b3399638c2145f74915bc48518357bf51993708b44dd3", func := "kedge/kedgelaw06.EditSafe", spec := "editSafe", inPlace := ["slices.overlaps[byte]"], unfollowed := true, recurses := true, apart := false, narrowed := true }
def EditSafeUptoSaid : Prop := editSafeUptoRow.holds Try.pinned (OpenSpec.upto editSafeSpec)

end Rows
end Go.Proofs.Ytfieinajkkcelaa
