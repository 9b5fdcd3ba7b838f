/-
  No cell of these rows narrows 'for every input' (looked for: loops, veiled, ifaces, maps, wideKeys, modest, calm, conditions, laid).
  DERIVED. THE GIVEN ROWS OF THIS SEAT. 4 by the template 'for every input the law returns true; each argument reads behind the call as it read before'; 0 by the template 'total and deterministic' (their statements: YtenfaneaihdppaaTotals.lean).
  GIVEN WITH THE SEED: the statements are not yours to turn. If you find one false, say at which input.
  Laid BY PROGRAM, IN A SANDBOX (cutbox-rows.mjs): the forced cells as the released guide's own fill.sh prints them over the translation 9e49de23ca06c2b1… (all of the seat's roots in one cut). By AI agents, Wed Nov 11 2026. No macro, syntax, notation, axiom, sorry.
-/
import Derived.Test.YtenfaneaihdppaaChecked
import GoSem.Claim
import GoSem.ClaimJoined
import GoSem.ClaimMapViews
import Derived.JoinedTies
import Derived.KernelRfl
namespace Go.Proofs.Ytenfaneaihdppaa
/- THE CELL 'sum', in the pinned program and in every row, IS THE sha256 OF THE DUMP (.gsa) THAT YtenfaneaihdppaaProg.lean LOADS. Nothing in Lean hashes anything: it is a label: what it is worth is what the hold of that sum in a sandbox is worth. -/
noncomputable def Try.pinned : Pinned := { name := "ytenfaneaihdppaa", sum := "9e49de23ca06c2b1465c4616a2fde8fedc61de3ad2505c5734154dc7f86cd423", checked := Try.checked }
namespace Rows
def none {H : Type} : Left H := { results := [], args := [] }

/-- 'abecedarylaw17.DistAll': WHATEVER THE INPUT: true; the input reads as it did. -/
def distAllSpec : ChangeSpec := { name := "distAll", fn := fun _ => fun
  | [d1, d2, d3] => { results := [.lit (.bool true)], args := [d1, d2, d3] }
  | _ => none }
def distAllRow : OpenClaim := { program := "ytenfaneaihdppaa", sum := "9e49de23ca06c2b1465c4616a2fde8fedc61de3ad2505c5734154dc7f86cd423", func := "abecedary/abecedarylaw17.DistAll", spec := "distAll", apart := false }
def DistAllSaid : Prop := distAllRow.holds Try.pinned (OpenSpec.ofChange distAllSpec)

/-- ITS FALSE NEIGHBOUR: 'it returns false'. Refute it at one input. -/
def distAllWrong : ChangeSpec := { name := "distAll", fn := fun _ => fun
  | [d1, d2, d3] => { results := [.lit (.bool false)], args := [d1, d2, d3] }
  | _ => none }
def DistAllWrongFalsely : Prop := distAllRow.holds Try.pinned (OpenSpec.ofChange distAllWrong)

/-- 'abecedarylaw17.DistEven': WHATEVER THE INPUT: true; the input reads as it did. -/
def distEvenSpec : ChangeSpec := { name := "distEven", fn := fun _ => fun
  | [d1, d2, d3] => { results := [.lit (.bool true)], args := [d1, d2, d3] }
  | _ => none }
def distEvenRow : OpenClaim := { program := "ytenfaneaihdppaa", sum := "9e49de23ca06c2b1465c4616a2fde8fedc61de3ad2505c5734154dc7f86cd423", func := "abecedary/abecedarylaw17.DistEven", spec := "distEven", apart := false }
def DistEvenSaid : Prop := distEvenRow.holds Try.pinned (OpenSpec.ofChange distEvenSpec)

/-- ITS FALSE NEIGHBOUR: 'it returns false'. Refute it at one input. -/
def distEvenWrong : ChangeSpec := { name := "distEven", fn := fun _ => fun
  | [d1, d2, d3] => { results := [.lit (.bool false)], args := [d1, d2, d3] }
  | _ => none }
def DistEvenWrongFalsely : Prop := distEvenRow.holds Try.pinned (OpenSpec.ofChange distEvenWrong)

/-- 'abecedarylaw17.DistEdits': WHATEVER THE INPUT: true; the input reads as it did. -/
def distEditsSpec : ChangeSpec := { name := "distEdits", fn := fun _ => fun
  | [d1, d2] => { results := [.lit (.bool true)], args := [d1, d2] }
  | _ => none }
def distEditsRow : OpenClaim := { program := "ytenfaneaihdppaa", sum := "9e49de23ca06c2b1465c4616a2fde8fedc61de3ad2505c5734154dc7f86cd423", func := "abecedary/abecedarylaw17.DistEdits", spec := "distEdits", apart := false }
def DistEditsSaid : Prop := distEditsRow.holds Try.pinned (OpenSpec.ofChange distEditsSpec)

/-- ITS FALSE NEIGHBOUR: 'it returns false'. Refute it at one input. -/
def distEditsWrong : ChangeSpec := { name := "distEdits", fn := fun _ => fun
  | [d1, d2] => { results := [.lit (.bool false)], args := [d1, d2] }
  | _ => none }
def DistEditsWrongFalsely : Prop := distEditsRow.holds Try.pinned (OpenSpec.ofChange distEditsWrong)

/-- 'abecedarylaw17.DistKnown': WHATEVER THE INPUT: true; the input reads as it did. -/
def distKnownSpec : ChangeSpec := { name := "distKnown", fn := fun _ => fun
  | [d1, d2] => { results := [.lit (.bool true)], args := [d1, d2] }
  | _ => none }
def distKnownRow : OpenClaim := { program := "ytenfaneaihdppaa", sum := "9e49de23ca06c2b1465c4616a2fde8fedc61de3ad2505c5734154dc7f86cd423", func := "abecedary/abecedarylaw17.DistKnown", spec := "distKnown", apart := false }
def DistKnownSaid : Prop := distKnownRow.holds Try.pinned (OpenSpec.ofChange distKnownSpec)

/-- ITS FALSE NEIGHBOUR: 'it returns false'. Refute it at one input. -/
def distKnownWrong : ChangeSpec := { name := "distKnown", fn := fun _ => fun
  | [d1, d2] => { results := [.lit (.bool false)], args := [d1, d2] }
  | _ => none }
def DistKnownWrongFalsely : Prop := distKnownRow.holds Try.pinned (OpenSpec.ofChange distKnownWrong)

/- THE SECOND FORM. 'bulk': how many values and letters a reading holds, each counted each time it is reached (what is shared counts as often as it is met; a slice's spare places count too). A statement '..UptoSaid' is the law's where the arguments, and the package variables that the reading takes, are together of bulk at most 1048576: NARROWER than '..Said'. Prove '..Said' where nothing that the law and all that it calls make is longer than what came in: it says more and counts as full. Else prove '..UptoSaid'. A law counts once. -/
mutual
def uptoBulk {H : Type} : DataW H → Nat
  | .lit (.string bytes) => bytes.length + 1
  | .lit _ => 1
  | .nil => 1
  | .ptr d => uptoBulk d + 1
  | .slice elems spare => uptoBulkAll elems + uptoBulkAll spare + 1
  | .agg parts => uptoBulkAll parts + 1
  | .iface _ d => uptoBulk d + 1
  | .map entries => uptoBulkEntries entries + 1
  | .held _ => 1
def uptoBulkAll {H : Type} : List (DataW H) → Nat
  | [] => 0
  | d :: r => uptoBulk d + uptoBulkAll r
def uptoBulkEntries {H : Type} : List (Lit × DataW H) → Nat
  | [] => 0
  | x :: r => uptoBulkEntry x + uptoBulkEntries r
def uptoBulkEntry {H : Type} : Lit × DataW H → Nat
  | (.string bytes, d) => bytes.length + uptoBulk d + 1
  | (_, d) => uptoBulk d + 1
 end
def uptoSmall : (H : Type) → List (DataW H) → Bool := fun _ ds => decide (uptoBulkAll ds ≤ 1048576)
def OpenSpec.upto (s : _root_.Go.ChangeSpec) : _root_.Go.OpenSpec := { _root_.Go.OpenSpec.ofChange s with cond := some uptoSmall }

/-- 'abecedarylaw17.DistAll', WHERE WHAT IT READS IS OF BULK AT MOST 1048576: true; the input reads as it did. -/
def distAllUptoRow : OpenClaim := { program := "ytenfaneaihdppaa", sum := "9e49de23ca06c2b1465c4616a2fde8fedc61de3ad2505c5734154dc7f86cd423", func := "abecedary/abecedarylaw17.DistAll", spec := "distAll", apart := false, narrowed := true }
def DistAllUptoSaid : Prop := distAllUptoRow.holds Try.pinned (OpenSpec.upto distAllSpec)

/-- 'abecedarylaw17.DistEven', WHERE WHAT IT READS IS OF BULK AT MOST 1048576: true; the input reads as it did. -/
def distEvenUptoRow : OpenClaim := { program := "ytenfaneaihdppaa", sum := "9e49de23ca06c2b1465c4616a2fde8fedc61de3ad2505c5734154dc7f86cd423", func := "abecedary/abecedarylaw17.DistEven", spec := "distEven", apart := false, narrowed := true }
def DistEvenUptoSaid : Prop := distEvenUptoRow.holds Try.pinned (OpenSpec.upto distEvenSpec)

/-- 'abecedarylaw17.DistEdits', WHERE WHAT IT READS IS OF BULK AT MOST 1048576: true; the input reads as it did. -/
def distEditsUptoRow : OpenClaim := { program := "ytenfaneaihdppaa", sum := "9e49de23ca06c2b1465c4616a2fde8fedc61de3ad2505c5734154dc7f86cd423", func := "abecedary/abecedarylaw17.DistEdits", spec := "distEdits", apart := false, narrowed := true }
def DistEditsUptoSaid : Prop := distEditsUptoRow.holds Try.pinned (OpenSpec.upto distEditsSpec)

/-- 'abecedarylaw17.DistKnown', WHERE WHAT IT READS IS OF BULK AT MOST 1048576: true; the input reads as it did. -/
def distKnownUptoRow : OpenClaim := { program := "ytenfaneaihdppaa", sum := "9e49de23ca06c2b1465c4616a2fde8fedc61de3ad2505c5734154dc7f86cd423", func := "abecedary/abecedarylaw17.DistKnown", spec := "distKnown", apart := false, narrowed := true }
def DistKnownUptoSaid : Prop := distKnownUptoRow.holds Try.pinned (OpenSpec.upto distKnownSpec)

end Rows
end Go.Proofs.Ytenfaneaihdppaa
