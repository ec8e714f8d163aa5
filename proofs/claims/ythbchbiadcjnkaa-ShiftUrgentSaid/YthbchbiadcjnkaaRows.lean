/-
  No cell of these rows narrows 'for every input' (looked for: loops, veiled, ifaces, maps, wideKeys, modest, calm, conditions, laid).
  DERIVED. THE GIVEN ROWS OF THIS SEAT. 7 by the template 'for every input the law returns true; each argument reads behind the call as it read before'; 0 by the template 'total and deterministic' (their statements: YthbchbiadcjnkaaTotals.lean).
  GIVEN WITH THE SEED: the statements are not yours to turn. If you find one false, say at which input.
  Laid BY PROGRAM, IN A SANDBOX (cutbox-rows.mjs): the forced cells as the released guide's own fill.sh prints them over the translation ef2f4ae0ac9cd1a7… (all of the seat's roots in one cut). By AI agents, Wed Nov 11 2026. No macro, syntax, notation, axiom, sorry.
-/
import Derived.Test.YthbchbiadcjnkaaChecked
import GoSem.Claim
import GoSem.ClaimJoined
import GoSem.ClaimMapViews
import Derived.JoinedTies
import Derived.KernelRfl
namespace Go.Proofs.Ythbchbiadcjnkaa
/- THE CELL 'sum', in the pinned program and in every row, IS THE sha256 OF THE DUMP (.gsa) THAT YthbchbiadcjnkaaProg.lean LOADS. Nothing in Lean hashes anything: it is a label: what it is worth is what the hold of that sum in a sandbox is worth. -/
noncomputable def Try.pinned : Pinned := { name := "ythbchbiadcjnkaa", sum := "ef2f4ae0ac9cd1a7a87be842331f23fb766826d5142c9f3eb031539ef62a708f", checked := Try.checked }
namespace Rows
def none {H : Type} : Left H := { results := [], args := [] }

/-- 'letterbaglaw30.ShiftOptimal': WHATEVER THE INPUT: true; the input reads as it did. -/
def shiftOptimalSpec : ChangeSpec := { name := "shiftOptimal", fn := fun _ => fun
  | [d1, d2, d3] => { results := [.lit (.bool true)], args := [d1, d2, d3] }
  | _ => none }
def shiftOptimalRow : OpenClaim := { program := "ythbchbiadcjnkaa", sum := "ef2f4ae0ac9cd1a7a87be842331f23fb766826d5142c9f3eb031539ef62a708f", func := "letterbag/letterbaglaw30.ShiftOptimal", spec := "shiftOptimal", unfollowed := true, recurses := true, apart := false }
def ShiftOptimalSaid : Prop := shiftOptimalRow.holds Try.pinned (OpenSpec.ofChange shiftOptimalSpec)

/-- ITS FALSE NEIGHBOUR: 'it returns false'. Refute it at one input. -/
def shiftOptimalWrong : ChangeSpec := { name := "shiftOptimal", fn := fun _ => fun
  | [d1, d2, d3] => { results := [.lit (.bool false)], args := [d1, d2, d3] }
  | _ => none }
def ShiftOptimalWrongFalsely : Prop := shiftOptimalRow.holds Try.pinned (OpenSpec.ofChange shiftOptimalWrong)

/-- 'letterbaglaw30.ShiftProves': WHATEVER THE INPUT: true; the input reads as it did. -/
def shiftProvesSpec : ChangeSpec := { name := "shiftProves", fn := fun _ => fun
  | [d1, d2] => { results := [.lit (.bool true)], args := [d1, d2] }
  | _ => none }
def shiftProvesRow : OpenClaim := { program := "ythbchbiadcjnkaa", sum := "ef2f4ae0ac9cd1a7a87be842331f23fb766826d5142c9f3eb031539ef62a708f", func := "letterbag/letterbaglaw30.ShiftProves", spec := "shiftProves", unfollowed := true, recurses := true, apart := false }
def ShiftProvesSaid : Prop := shiftProvesRow.holds Try.pinned (OpenSpec.ofChange shiftProvesSpec)

/-- ITS FALSE NEIGHBOUR: 'it returns false'. Refute it at one input. -/
def shiftProvesWrong : ChangeSpec := { name := "shiftProves", fn := fun _ => fun
  | [d1, d2] => { results := [.lit (.bool false)], args := [d1, d2] }
  | _ => none }
def ShiftProvesWrongFalsely : Prop := shiftProvesRow.holds Try.pinned (OpenSpec.ofChange shiftProvesWrong)

/-- 'letterbaglaw30.ShiftUrgent': WHATEVER THE INPUT: true; the input reads as it did. -/
def shiftUrgentSpec : ChangeSpec := { name := "shiftUrgent", fn := fun _ => fun
  | [d1, d2] => { results := [.lit (.bool true)], args := [d1, d2] }
  | _ => none }
def shiftUrgentRow : OpenClaim := { program := "ythbchbiadcjnkaa", sum := "ef2f4ae0ac9cd1a7a87be842331f23fb766826d5142c9f3eb031539ef62a708f", func := "letterbag/letterbaglaw30.ShiftUrgent", spec := "shiftUrgent", unfollowed := true, recurses := true, apart := false }
def ShiftUrgentSaid : Prop := shiftUrgentRow.holds Try.pinned (OpenSpec.ofChange shiftUrgentSpec)

/-- ITS FALSE NEIGHBOUR: 'it returns false'. Refute it at one input. -/
def shiftUrgentWrong : ChangeSpec := { name := "shiftUrgent", fn := fun _ => fun
  | [d1, d2] => { results := [.lit (.bool false)], args := [d1, d2] }
  | _ => none }
def ShiftUrgentWrongFalsely : Prop := shiftUrgentRow.holds Try.pinned (OpenSpec.ofChange shiftUrgentWrong)

/-- 'letterbaglaw30.ShiftOrder': WHATEVER THE INPUT: true; the input reads as it did. -/
def shiftOrderSpec : ChangeSpec := { name := "shiftOrder", fn := fun _ => fun
  | [d1, d2, d3] => { results := [.lit (.bool true)], args := [d1, d2, d3] }
  | _ => none }
def shiftOrderRow : OpenClaim := { program := "ythbchbiadcjnkaa", sum := "ef2f4ae0ac9cd1a7a87be842331f23fb766826d5142c9f3eb031539ef62a708f", func := "letterbag/letterbaglaw30.ShiftOrder", spec := "shiftOrder", unfollowed := true, recurses := true, apart := false }
def ShiftOrderSaid : Prop := shiftOrderRow.holds Try.pinned (OpenSpec.ofChange shiftOrderSpec)

/-- ITS FALSE NEIGHBOUR: 'it returns false'. Refute it at one input. -/
def shiftOrderWrong : ChangeSpec := { name := "shiftOrder", fn := fun _ => fun
  | [d1, d2, d3] => { results := [.lit (.bool false)], args := [d1, d2, d3] }
  | _ => none }
def ShiftOrderWrongFalsely : Prop := shiftOrderRow.holds Try.pinned (OpenSpec.ofChange shiftOrderWrong)

/-- 'letterbaglaw30.ShiftMore': WHATEVER THE INPUT: true; the input reads as it did. -/
def shiftMoreSpec : ChangeSpec := { name := "shiftMore", fn := fun _ => fun
  | [d1, d2, d3, d4] => { results := [.lit (.bool true)], args := [d1, d2, d3, d4] }
  | _ => none }
def shiftMoreRow : OpenClaim := { program := "ythbchbiadcjnkaa", sum := "ef2f4ae0ac9cd1a7a87be842331f23fb766826d5142c9f3eb031539ef62a708f", func := "letterbag/letterbaglaw30.ShiftMore", spec := "shiftMore", unfollowed := true, recurses := true, apart := false }
def ShiftMoreSaid : Prop := shiftMoreRow.holds Try.pinned (OpenSpec.ofChange shiftMoreSpec)

/-- ITS FALSE NEIGHBOUR: 'it returns false'. Refute it at one input. -/
def shiftMoreWrong : ChangeSpec := { name := "shiftMore", fn := fun _ => fun
  | [d1, d2, d3, d4] => { results := [.lit (.bool false)], args := [d1, d2, d3, d4] }
  | _ => none }
def ShiftMoreWrongFalsely : Prop := shiftMoreRow.holds Try.pinned (OpenSpec.ofChange shiftMoreWrong)

/-- 'letterbaglaw30.ShiftLater': WHATEVER THE INPUT: true; the input reads as it did. -/
def shiftLaterSpec : ChangeSpec := { name := "shiftLater", fn := fun _ => fun
  | [d1, d2, d3] => { results := [.lit (.bool true)], args := [d1, d2, d3] }
  | _ => none }
def shiftLaterRow : OpenClaim := { program := "ythbchbiadcjnkaa", sum := "ef2f4ae0ac9cd1a7a87be842331f23fb766826d5142c9f3eb031539ef62a708f", func := "letterbag/letterbaglaw30.ShiftLater", spec := "shiftLater", unfollowed := true, recurses := true, apart := false }
def ShiftLaterSaid : Prop := shiftLaterRow.holds Try.pinned (OpenSpec.ofChange shiftLaterSpec)

/-- ITS FALSE NEIGHBOUR: 'it returns false'. Refute it at one input. -/
def shiftLaterWrong : ChangeSpec := { name := "shiftLater", fn := fun _ => fun
  | [d1, d2, d3] => { results := [.lit (.bool false)], args := [d1, d2, d3] }
  | _ => none }
def ShiftLaterWrongFalsely : Prop := shiftLaterRow.holds Try.pinned (OpenSpec.ofChange shiftLaterWrong)

/-- 'letterbaglaw30.ShiftWrong': WHATEVER THE INPUT: true; the input reads as it did. -/
def shiftWrongSpec : ChangeSpec := { name := "shiftWrong", fn := fun _ => fun
  | [d1, d2] => { results := [.lit (.bool true)], args := [d1, d2] }
  | _ => none }
def shiftWrongRow : OpenClaim := { program := "ythbchbiadcjnkaa", sum := "ef2f4ae0ac9cd1a7a87be842331f23fb766826d5142c9f3eb031539ef62a708f", func := "letterbag/letterbaglaw30.ShiftWrong", spec := "shiftWrong", unfollowed := true, recurses := true, apart := false }
def ShiftWrongSaid : Prop := shiftWrongRow.holds Try.pinned (OpenSpec.ofChange shiftWrongSpec)

/-- ITS FALSE NEIGHBOUR: 'it returns false'. Refute it at one input. -/
def shiftWrongWrong : ChangeSpec := { name := "shiftWrong", fn := fun _ => fun
  | [d1, d2] => { results := [.lit (.bool false)], args := [d1, d2] }
  | _ => none }
def ShiftWrongWrongFalsely : Prop := shiftWrongRow.holds Try.pinned (OpenSpec.ofChange shiftWrongWrong)

/- THE SECOND FORM. 'bulk': how many values and letters a reading holds, each counted each time it is reached (what is shared counts as often as it is met; a slice's spare places count too). A statement '..UptoSaid' is the law's where the arguments, and the package variables that the reading takes, are together of bulk at most 1048576: NARROWER than '..Said'. Prove '..Said' where nothing that the law and all that it calls make is longer than what came in: it says more and counts as full. Else prove '..UptoSaid'. A law counts once. -/
mutual
def uptoBulk {H : Type} : DataW H → Nat
  | .lit (.string bytes) => bytes.length + 1
  | .lit _ => 1
  | .nil => 1
  | .ptr d => uptoBulk d + 1
  | .slice elems spare => uptoBulkAll elems + uptoBulkAll spare + 1
  | .agg parts => uptoBulkAll parts + 1
  | .iface _ d => uptoBulk d + 1
  | .map entries => uptoBulkEntries entries + 1
  | .held _ => 1
def uptoBulkAll {H : Type} : List (DataW H) → Nat
  | [] => 0
  | d :: r => uptoBulk d + uptoBulkAll r
def uptoBulkEntries {H : Type} : List (Lit × DataW H) → Nat
  | [] => 0
  | x :: r => uptoBulkEntry x + uptoBulkEntries r
def uptoBulkEntry {H : Type} : Lit × DataW H → Nat
  | (.string bytes, d) => bytes.length + uptoBulk d + 1
  | (_, d) => uptoBulk d + 1
 end
def uptoSmall : (H : Type) → List (DataW H) → Bool := fun _ ds => decide (uptoBulkAll ds ≤ 1048576)
def OpenSpec.upto (s : _root_.Go.ChangeSpec) : _root_.Go.OpenSpec := { _root_.Go.OpenSpec.ofChange s with cond := some uptoSmall }

/-- 'letterbaglaw30.ShiftOptimal', WHERE WHAT IT READS IS OF BULK AT MOST 1048576: true; the input reads as it did. -/
def shiftOptimalUptoRow : OpenClaim := { program := "ythbchbiadcjnkaa", sum := "ef2f4ae0ac9cd1a7a87be842331f23fb766826d5142c9f3eb031539ef62a708f", func := "letterbag/letterbaglaw30.ShiftOptimal", spec := "shiftOptimal", unfollowed := true, recurses := true, apart := false, narrowed := true }
def ShiftOptimalUptoSaid : Prop := shiftOptimalUptoRow.holds Try.pinned (OpenSpec.upto shiftOptimalSpec)

/-- 'letterbaglaw30.ShiftProves', WHERE WHAT IT READS IS OF BULK AT MOST 1048576: true; the input reads as it did. -/
def shiftProvesUptoRow : OpenClaim := { program := "ythbchbiadcjnkaa", sum := "ef2f4ae0ac9cd1a7a87be842331f23fb766826d5142c9f3eb031539ef62a708f", func := "letterbag/letterbaglaw30.ShiftProves", spec := "shiftProves", unfollowed := true, recurses := true, apart := false, narrowed := true }
def ShiftProvesUptoSaid : Prop := shiftProvesUptoRow.holds Try.pinned (OpenSpec.upto shiftProvesSpec)

/-- 'letterbaglaw30.ShiftUrgent', WHERE WHAT IT READS IS OF BULK AT MOST 1048576: true; the input reads as it did. -/
def shiftUrgentUptoRow : OpenClaim := { program := "ythbchbiadcjnkaa", sum := "ef2f4ae0ac9cd1a7a87be842331f23fb766826d5142c9f3eb031539ef62a708f", func := "letterbag/letterbaglaw30.ShiftUrgent", spec := "shiftUrgent", unfollowed := true, recurses := true, apart := false, narrowed := true }
def ShiftUrgentUptoSaid : Prop := shiftUrgentUptoRow.holds Try.pinned (OpenSpec.upto shiftUrgentSpec)

/-- 'letterbaglaw30.ShiftOrder', WHERE WHAT IT READS IS OF BULK AT MOST 1048576: true; the input reads as it did. -/
def shiftOrderUptoRow : OpenClaim := { program := "ythbchbiadcjnkaa", sum := "ef2f4ae0ac9cd1a7a87be842331f23fb766826d5142c9f3eb031539ef62a708f", func := "letterbag/letterbaglaw30.ShiftOrder", spec := "shiftOrder", unfollowed := true, recurses := true, apart := false, narrowed := true }
def ShiftOrderUptoSaid : Prop := shiftOrderUptoRow.holds Try.pinned (OpenSpec.upto shiftOrderSpec)

/-- 'letterbaglaw30.ShiftMore', WHERE WHAT IT READS IS OF BULK AT MOST 1048576: true; the input reads as it did. -/
def shiftMoreUptoRow : OpenClaim := { program := "ythbchbiadcjnkaa", sum := "ef2f4ae0ac9cd1a7a87be842331f23fb766826d5142c9f3eb031539ef62a708f", func := "letterbag/letterbaglaw30.ShiftMore", spec := "shiftMore", unfollowed := true, recurses := true, apart := false, narrowed := true }
def ShiftMoreUptoSaid : Prop := shiftMoreUptoRow.holds Try.pinned (OpenSpec.upto shiftMoreSpec)

/-- 'letterbaglaw30.ShiftLater', WHERE WHAT IT READS IS OF BULK AT MOST 1048576: true; the input reads as it did. -/
def shiftLaterUptoRow : OpenClaim := { program := "ythbchbiadcjnkaa", sum := "ef2f4ae0ac9cd1a7a87be842331f23fb766826d5142c9f3eb031539ef62a708f", func := "letterbag/letterbaglaw30.ShiftLater", spec := "shiftLater", unfollowed := true, recurses := true, apart := false, narrowed := true }
def ShiftLaterUptoSaid : Prop := shiftLaterUptoRow.holds Try.pinned (OpenSpec.upto shiftLaterSpec)

/-- 'letterbaglaw30.ShiftWrong', WHERE WHAT IT READS IS OF BULK AT MOST 1048576: true; the input reads as it did. -/
def shiftWrongUptoRow : OpenClaim := { program := "ythbchbiadcjnkaa", sum := "ef2f4ae0ac9cd1a7a87be842331f23fb766826d5142c9f3eb031539ef62a708f", func := "letterbag/letterbaglaw30.ShiftWrong", spec := "shiftWrong", unfollowed := true, recurses := true, apart := false, narrowed := true }
def ShiftWrongUptoSaid : Prop := shiftWrongUptoRow.holds Try.pinned (OpenSpec.upto shiftWrongSpec)

end Rows
end Go.Proofs.Ythbchbiadcjnkaa
