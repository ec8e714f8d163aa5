/-
  No cell of these rows narrows 'for every input' (looked for: loops, veiled, ifaces, maps, wideKeys, modest, calm, conditions, laid).
  DERIVED. THE GIVEN ROWS OF THIS SEAT. 4 by the template 'for every input the law returns true; each argument reads behind the call as it read before'; 0 by the template 'total and deterministic' (their statements: YtagndgidfaladaaTotals.lean).
  GIVEN WITH THE SEED: the statements are not yours to turn. If you find one false, say at which input.
  Laid BY PROGRAM, IN A SANDBOX (cutbox-rows.mjs): the forced cells as the released guide's own fill.sh prints them over the translation b042c746fb4a5ae1… (all of the seat's roots in one cut). By AI agents, Wed Nov 11 2026. No macro, syntax, notation, axiom, sorry.
-/
import Derived.Test.YtagndgidfaladaaChecked
import GoSem.Claim
import GoSem.ClaimJoined
import GoSem.ClaimMapViews
import Derived.JoinedTies
import Derived.KernelRfl
namespace Go.Proofs.Ytagndgidfaladaa
/- THE CELL 'sum', in the pinned program and in every row, IS THE sha256 OF THE DUMP (.gsa) THAT YtagndgidfaladaaProg.lean LOADS. Nothing in Lean hashes anything: it is a label: what it is worth is what the hold of that sum in a sandbox is worth. -/
noncomputable def Try.pinned : Pinned := { name := "ytagndgidfaladaa", sum := "b042c746fb4a5ae192c2803068fea2679e40f10e28f829ac72a7f3e6bccc089d", checked := Try.checked }
namespace Rows
def none {H : Type} : Left H := { results := [], args := [] }

/-- 'letterbaglaw07.LexiconAll': WHATEVER THE INPUT: true; the input reads as it did. -/
def lexiconAllSpec : ChangeSpec := { name := "lexiconAll", fn := fun _ => fun
  | [d1, d2, d3, d4] => { results := [.lit (.bool true)], args := [d1, d2, d3, d4] }
  | _ => none }
def lexiconAllRow : OpenClaim := { program := "ytagndgidfaladaa", sum := "b042c746fb4a5ae192c2803068fea2679e40f10e28f829ac72a7f3e6bccc089d", func := "letterbag/letterbaglaw07.LexiconAll", spec := "lexiconAll", unfollowed := true, recurses := true, apart := false }
def LexiconAllSaid : Prop := lexiconAllRow.holds Try.pinned (OpenSpec.ofChange lexiconAllSpec)

/-- ITS FALSE NEIGHBOUR: 'it returns false'. Refute it at one input. -/
def lexiconAllWrong : ChangeSpec := { name := "lexiconAll", fn := fun _ => fun
  | [d1, d2, d3, d4] => { results := [.lit (.bool false)], args := [d1, d2, d3, d4] }
  | _ => none }
def LexiconAllWrongFalsely : Prop := lexiconAllRow.holds Try.pinned (OpenSpec.ofChange lexiconAllWrong)

/-- 'letterbaglaw07.LexiconMore': WHATEVER THE INPUT: true; the input reads as it did. -/
def lexiconMoreSpec : ChangeSpec := { name := "lexiconMore", fn := fun _ => fun
  | [d1, d2, d3, d4, d5] => { results := [.lit (.bool true)], args := [d1, d2, d3, d4, d5] }
  | _ => none }
def lexiconMoreRow : OpenClaim := { program := "ytagndgidfaladaa", sum := "b042c746fb4a5ae192c2803068fea2679e40f10e28f829ac72a7f3e6bccc089d", func := "letterbag/letterbaglaw07.LexiconMore", spec := "lexiconMore", unfollowed := true, recurses := true, apart := false }
def LexiconMoreSaid : Prop := lexiconMoreRow.holds Try.pinned (OpenSpec.ofChange lexiconMoreSpec)

/-- ITS FALSE NEIGHBOUR: 'it returns false'. Refute it at one input. -/
def lexiconMoreWrong : ChangeSpec := { name := "lexiconMore", fn := fun _ => fun
  | [d1, d2, d3, d4, d5] => { results := [.lit (.bool false)], args := [d1, d2, d3, d4, d5] }
  | _ => none }
def LexiconMoreWrongFalsely : Prop := lexiconMoreRow.holds Try.pinned (OpenSpec.ofChange lexiconMoreWrong)

/-- 'letterbaglaw07.LexiconTurned': WHATEVER THE INPUT: true; the input reads as it did. -/
def lexiconTurnedSpec : ChangeSpec := { name := "lexiconTurned", fn := fun _ => fun
  | [d1, d2, d3, d4, d5] => { results := [.lit (.bool true)], args := [d1, d2, d3, d4, d5] }
  | _ => none }
def lexiconTurnedRow : OpenClaim := { program := "ytagndgidfaladaa", sum := "b042c746fb4a5ae192c2803068fea2679e40f10e28f829ac72a7f3e6bccc089d", func := "letterbag/letterbaglaw07.LexiconTurned", spec := "lexiconTurned", unfollowed := true, recurses := true, apart := false }
def LexiconTurnedSaid : Prop := lexiconTurnedRow.holds Try.pinned (OpenSpec.ofChange lexiconTurnedSpec)

/-- ITS FALSE NEIGHBOUR: 'it returns false'. Refute it at one input. -/
def lexiconTurnedWrong : ChangeSpec := { name := "lexiconTurned", fn := fun _ => fun
  | [d1, d2, d3, d4, d5] => { results := [.lit (.bool false)], args := [d1, d2, d3, d4, d5] }
  | _ => none }
def LexiconTurnedWrongFalsely : Prop := lexiconTurnedRow.holds Try.pinned (OpenSpec.ofChange lexiconTurnedWrong)

/-- 'letterbaglaw07.LexiconFound': WHATEVER THE INPUT: true; the input reads as it did. -/
def lexiconFoundSpec : ChangeSpec := { name := "lexiconFound", fn := fun _ => fun
  | [d1, d2] => { results := [.lit (.bool true)], args := [d1, d2] }
  | _ => none }
def lexiconFoundRow : OpenClaim := { program := "ytagndgidfaladaa", sum := "b042c746fb4a5ae192c2803068fea2679e40f10e28f829ac72a7f3e6bccc089d", func := "letterbag/letterbaglaw07.LexiconFound", spec := "lexiconFound", unfollowed := true, recurses := true, apart := false }
def LexiconFoundSaid : Prop := lexiconFoundRow.holds Try.pinned (OpenSpec.ofChange lexiconFoundSpec)

/-- ITS FALSE NEIGHBOUR: 'it returns false'. Refute it at one input. -/
def lexiconFoundWrong : ChangeSpec := { name := "lexiconFound", fn := fun _ => fun
  | [d1, d2] => { results := [.lit (.bool false)], args := [d1, d2] }
  | _ => none }
def LexiconFoundWrongFalsely : Prop := lexiconFoundRow.holds Try.pinned (OpenSpec.ofChange lexiconFoundWrong)

/- THE SECOND FORM. 'bulk': how many values and letters a reading holds, each counted each time it is reached (what is shared counts as often as it is met; a slice's spare places count too). A statement '..UptoSaid' is the law's where the arguments, and the package variables that the reading takes, are together of bulk at most 1048576: NARROWER than '..Said'. Prove '..Said' where nothing that the law and all that it calls make is longer than what came in: it says more and counts as full. Else prove '..UptoSaid'. A law counts once. -/
mutual
def uptoBulk {H : Type} : DataW H → Nat
  | .lit (.string bytes) => bytes.length + 1
  | .lit _ => 1
  | .nil => 1
  | .ptr d => uptoBulk d + 1
  | .slice elems spare => uptoBulkAll elems + uptoBulkAll spare + 1
  | .agg parts => uptoBulkAll parts + 1
  | .iface _ d => uptoBulk d + 1
  | .map entries => uptoBulkEntries entries + 1
  | .held _ => 1
def uptoBulkAll {H : Type} : List (DataW H) → Nat
  | [] => 0
  | d :: r => uptoBulk d + uptoBulkAll r
def uptoBulkEntries {H : Type} : List (Lit × DataW H) → Nat
  | [] => 0
  | x :: r => uptoBulkEntry x + uptoBulkEntries r
def uptoBulkEntry {H : Type} : Lit × DataW H → Nat
  | (.string bytes, d) => bytes.length + uptoBulk d + 1
  | (_, d) => uptoBulk d + 1
 end
def uptoSmall : (H : Type) → List (DataW H) → Bool := fun _ ds => decide (uptoBulkAll ds ≤ 1048576)
def OpenSpec.upto (s : _root_.Go.ChangeSpec) : _root_.Go.OpenSpec := { _root_.Go.OpenSpec.ofChange s with cond := some uptoSmall }

/-- 'letterbaglaw07.LexiconAll', WHERE WHAT IT READS IS OF BULK AT MOST 1048576: true; the input reads as it did. -/
def lexiconAllUptoRow : OpenClaim := { program := "ytagndgidfaladaa", sum := "b042c746fb4a5ae192c2803068fea2679e40f10e28f829ac72a7f3e6bccc089d", func := "letterbag/letterbaglaw07.LexiconAll", spec := "lexiconAll", unfollowed := true, recurses := true, apart := false, narrowed := true }
def LexiconAllUptoSaid : Prop := lexiconAllUptoRow.holds Try.pinned (OpenSpec.upto lexiconAllSpec)

/-- 'letterbaglaw07.LexiconMore', WHERE WHAT IT READS IS OF BULK AT MOST 1048576: true; the input reads as it did. -/
def lexiconMoreUptoRow : OpenClaim := { program := "ytagndgidfaladaa", sum := "b042c746fb4a5ae192c2803068fea2679e40f10e28f829ac72a7f3e6bccc089d", func := "letterbag/letterbaglaw07.LexiconMore", spec := "lexiconMore", unfollowed := true, recurses := true, apart := false, narrowed := true }
def LexiconMoreUptoSaid : Prop := lexiconMoreUptoRow.holds Try.pinned (OpenSpec.upto lexiconMoreSpec)

/-- 'letterbaglaw07.LexiconTurned', WHERE WHAT IT READS IS OF BULK AT MOST 1048576: true; the input reads as it did. -/
def lexiconTurnedUptoRow : OpenClaim := { program := "ytagndgidfaladaa", sum := "b042c746fb4a5ae192c2803068fea2679e40f10e28f829ac72a7f3e6bccc089d", func := "letterbag/letterbaglaw07.LexiconTurned", spec := "lexiconTurned", unfollowed := true, recurses := true, apart := false, narrowed := true }
def LexiconTurnedUptoSaid : Prop := lexiconTurnedUptoRow.holds Try.pinned (OpenSpec.upto lexiconTurnedSpec)

/-- 'letterbaglaw07.LexiconFound', WHERE WHAT IT READS IS OF BULK AT MOST 1048576: true; the input reads as it did. -/
def lexiconFoundUptoRow : OpenClaim := { program := "ytagndgidfaladaa", sum := "b042c746fb4a5ae192c2803068fea2679e40f10e28f829ac72a7f3e6bccc089d", func := "letterbag/letterbaglaw07.LexiconFound", spec := "lexiconFound", unfollowed := true, recurses := true, apart := false, narrowed := true }
def LexiconFoundUptoSaid : Prop := lexiconFoundUptoRow.holds Try.pinned (OpenSpec.upto lexiconFoundSpec)

end Rows
end Go.Proofs.Ytagndgidfaladaa
