/-
  No cell of these rows narrows 'for every input' (looked for: loops, veiled, ifaces, maps, wideKeys, modest, calm, conditions, laid).
  DERIVED. THE GIVEN ROWS OF THIS SEAT. 8 by the template 'for every input the law returns true; each argument reads behind the call as it read before'; 0 by the template 'total and deterministic' (their statements: YtbejfbekamikpaaTotals.lean).
  GIVEN WITH THE SEED: the statements are not yours to turn. If you find one false, say at which input.
  Laid BY PROGRAM, IN A SANDBOX (cutbox-rows.mjs): the forced cells as the released guide's own fill.sh prints them over the translation c156ed56a3a0dbd3… (all of the seat's roots in one cut). By AI agents, Wed Nov 11 2026. No macro, syntax, notation, axiom, sorry.
-/
import Derived.Test.YtbejfbekamikpaaChecked
import GoSem.Claim
import GoSem.ClaimJoined
import GoSem.ClaimMapViews
import Derived.JoinedTies
import Derived.KernelRfl
namespace Go.Proofs.Ytbejfbekamikpaa
/- THE CELL 'sum', in the pinned program and in every row, IS THE sha256 OF THE DUMP (.gsa) THAT YtbejfbekamikpaaProg.lean LOADS. Nothing in Lean hashes anything: it is a label: what it is worth is what the hold of that sum in a sandbox is worth. -/
noncomputable def Try.pinned : Pinned := { name := "ytbejfbekamikpaa", sum := "c156ed56a3a0dbd3bf4cf59001e344655283fa2b2bcd2563aba53d884dbcb3ce", checked := Try.checked }
namespace Rows
def none {H : Type} : Left H := { results := [], args := [] }

/-- 'letterbaglaw13.DeliverApart': WHATEVER THE INPUT: true; the input reads as it did. -/
def deliverApartSpec : ChangeSpec := { name := "deliverApart", fn := fun _ => fun
  | [d1, d2, d3] => { results := [.lit (.bool true)], args := [d1, d2, d3] }
  | _ => none }
def deliverApartRow : OpenClaim := { program := "ytbejfbekamikpaa", sum := "c156ed56a3a0dbd3bf4cf59001e344655283fa2b2bcd2563aba53d884dbcb3ce", func := "letterbag/letterbaglaw13.DeliverApart", spec := "deliverApart", unfollowed := true, recurses := true, apart := false }
def DeliverApartSaid : Prop := deliverApartRow.holds Try.pinned (OpenSpec.ofChange deliverApartSpec)

/-- ITS FALSE NEIGHBOUR: 'it returns false'. Refute it at one input. -/
def deliverApartWrong : ChangeSpec := { name := "deliverApart", fn := fun _ => fun
  | [d1, d2, d3] => { results := [.lit (.bool false)], args := [d1, d2, d3] }
  | _ => none }
def DeliverApartWrongFalsely : Prop := deliverApartRow.holds Try.pinned (OpenSpec.ofChange deliverApartWrong)

/-- 'letterbaglaw13.DeliverMore': WHATEVER THE INPUT: true; the input reads as it did. -/
def deliverMoreSpec : ChangeSpec := { name := "deliverMore", fn := fun _ => fun
  | [d1, d2, d3, d4] => { results := [.lit (.bool true)], args := [d1, d2, d3, d4] }
  | _ => none }
def deliverMoreRow : OpenClaim := { program := "ytbejfbekamikpaa", sum := "c156ed56a3a0dbd3bf4cf59001e344655283fa2b2bcd2563aba53d884dbcb3ce", func := "letterbag/letterbaglaw13.DeliverMore", spec := "deliverMore", unfollowed := true, recurses := true, apart := false }
def DeliverMoreSaid : Prop := deliverMoreRow.holds Try.pinned (OpenSpec.ofChange deliverMoreSpec)

/-- ITS FALSE NEIGHBOUR: 'it returns false'. Refute it at one input. -/
def deliverMoreWrong : ChangeSpec := { name := "deliverMore", fn := fun _ => fun
  | [d1, d2, d3, d4] => { results := [.lit (.bool false)], args := [d1, d2, d3, d4] }
  | _ => none }
def DeliverMoreWrongFalsely : Prop := deliverMoreRow.holds Try.pinned (OpenSpec.ofChange deliverMoreWrong)

/-- 'letterbaglaw13.DeliverNext': WHATEVER THE INPUT: true; the input reads as it did. -/
def deliverNextSpec : ChangeSpec := { name := "deliverNext", fn := fun _ => fun
  | [d1, d2, d3, d4] => { results := [.lit (.bool true)], args := [d1, d2, d3, d4] }
  | _ => none }
def deliverNextRow : OpenClaim := { program := "ytbejfbekamikpaa", sum := "c156ed56a3a0dbd3bf4cf59001e344655283fa2b2bcd2563aba53d884dbcb3ce", func := "letterbag/letterbaglaw13.DeliverNext", spec := "deliverNext", unfollowed := true, recurses := true, apart := false }
def DeliverNextSaid : Prop := deliverNextRow.holds Try.pinned (OpenSpec.ofChange deliverNextSpec)

/-- ITS FALSE NEIGHBOUR: 'it returns false'. Refute it at one input. -/
def deliverNextWrong : ChangeSpec := { name := "deliverNext", fn := fun _ => fun
  | [d1, d2, d3, d4] => { results := [.lit (.bool false)], args := [d1, d2, d3, d4] }
  | _ => none }
def DeliverNextWrongFalsely : Prop := deliverNextRow.holds Try.pinned (OpenSpec.ofChange deliverNextWrong)

/-- 'letterbaglaw13.DeliverYears': WHATEVER THE INPUT: true; the input reads as it did. -/
def deliverYearsSpec : ChangeSpec := { name := "deliverYears", fn := fun _ => fun
  | [d1, d2, d3] => { results := [.lit (.bool true)], args := [d1, d2, d3] }
  | _ => none }
def deliverYearsRow : OpenClaim := { program := "ytbejfbekamikpaa", sum := "c156ed56a3a0dbd3bf4cf59001e344655283fa2b2bcd2563aba53d884dbcb3ce", func := "letterbag/letterbaglaw13.DeliverYears", spec := "deliverYears", unfollowed := true, recurses := true, apart := false }
def DeliverYearsSaid : Prop := deliverYearsRow.holds Try.pinned (OpenSpec.ofChange deliverYearsSpec)

/-- ITS FALSE NEIGHBOUR: 'it returns false'. Refute it at one input. -/
def deliverYearsWrong : ChangeSpec := { name := "deliverYears", fn := fun _ => fun
  | [d1, d2, d3] => { results := [.lit (.bool false)], args := [d1, d2, d3] }
  | _ => none }
def DeliverYearsWrongFalsely : Prop := deliverYearsRow.holds Try.pinned (OpenSpec.ofChange deliverYearsWrong)

/-- 'letterbaglaw13.DeliverValid': WHATEVER THE INPUT: true; the input reads as it did. -/
def deliverValidSpec : ChangeSpec := { name := "deliverValid", fn := fun _ => fun
  | [d1, d2] => { results := [.lit (.bool true)], args := [d1, d2] }
  | _ => none }
def deliverValidRow : OpenClaim := { program := "ytbejfbekamikpaa", sum := "c156ed56a3a0dbd3bf4cf59001e344655283fa2b2bcd2563aba53d884dbcb3ce", func := "letterbag/letterbaglaw13.DeliverValid", spec := "deliverValid", unfollowed := true, recurses := true, apart := false }
def DeliverValidSaid : Prop := deliverValidRow.holds Try.pinned (OpenSpec.ofChange deliverValidSpec)

/-- ITS FALSE NEIGHBOUR: 'it returns false'. Refute it at one input. -/
def deliverValidWrong : ChangeSpec := { name := "deliverValid", fn := fun _ => fun
  | [d1, d2] => { results := [.lit (.bool false)], args := [d1, d2] }
  | _ => none }
def DeliverValidWrongFalsely : Prop := deliverValidRow.holds Try.pinned (OpenSpec.ofChange deliverValidWrong)

/-- 'letterbaglaw13.DeliverSmall': WHATEVER THE INPUT: true; the input reads as it did. -/
def deliverSmallSpec : ChangeSpec := { name := "deliverSmall", fn := fun _ => fun
  | [] => { results := [.lit (.bool true)], args := [] }
  | _ => none }
def deliverSmallRow : OpenClaim := { program := "ytbejfbekamikpaa", sum := "c156ed56a3a0dbd3bf4cf59001e344655283fa2b2bcd2563aba53d884dbcb3ce", func := "letterbag/letterbaglaw13.DeliverSmall", spec := "deliverSmall", unfollowed := true, recurses := true, apart := false }
def DeliverSmallSaid : Prop := deliverSmallRow.holds Try.pinned (OpenSpec.ofChange deliverSmallSpec)

/-- ITS FALSE NEIGHBOUR: 'it returns false'. Refute it at one input. -/
def deliverSmallWrong : ChangeSpec := { name := "deliverSmall", fn := fun _ => fun
  | [] => { results := [.lit (.bool false)], args := [] }
  | _ => none }
def DeliverSmallWrongFalsely : Prop := deliverSmallRow.holds Try.pinned (OpenSpec.ofChange deliverSmallWrong)

/-- 'letterbaglaw13.DeliverRules': WHATEVER THE INPUT: true; the input reads as it did. -/
def deliverRulesSpec : ChangeSpec := { name := "deliverRules", fn := fun _ => fun
  | [d1, d2, d3] => { results := [.lit (.bool true)], args := [d1, d2, d3] }
  | _ => none }
def deliverRulesRow : OpenClaim := { program := "ytbejfbekamikpaa", sum := "c156ed56a3a0dbd3bf4cf59001e344655283fa2b2bcd2563aba53d884dbcb3ce", func := "letterbag/letterbaglaw13.DeliverRules", spec := "deliverRules", unfollowed := true, recurses := true, apart := false }
def DeliverRulesSaid : Prop := deliverRulesRow.holds Try.pinned (OpenSpec.ofChange deliverRulesSpec)

/-- ITS FALSE NEIGHBOUR: 'it returns false'. Refute it at one input. -/
def deliverRulesWrong : ChangeSpec := { name := "deliverRules", fn := fun _ => fun
  | [d1, d2, d3] => { results := [.lit (.bool false)], args := [d1, d2, d3] }
  | _ => none }
def DeliverRulesWrongFalsely : Prop := deliverRulesRow.holds Try.pinned (OpenSpec.ofChange deliverRulesWrong)

/-- 'letterbaglaw13.DeliverWrong': WHATEVER THE INPUT: true; the input reads as it did. -/
def deliverWrongSpec : ChangeSpec := { name := "deliverWrong", fn := fun _ => fun
  | [d1, d2, d3] => { results := [.lit (.bool true)], args := [d1, d2, d3] }
  | _ => none }
def deliverWrongRow : OpenClaim := { program := "ytbejfbekamikpaa", sum := "c156ed56a3a0dbd3bf4cf59001e344655283fa2b2bcd2563aba53d884dbcb3ce", func := "letterbag/letterbaglaw13.DeliverWrong", spec := "deliverWrong", unfollowed := true, recurses := true, apart := false }
def DeliverWrongSaid : Prop := deliverWrongRow.holds Try.pinned (OpenSpec.ofChange deliverWrongSpec)

/-- ITS FALSE NEIGHBOUR: 'it returns false'. Refute it at one input. -/
def deliverWrongWrong : ChangeSpec := { name := "deliverWrong", fn := fun _ => fun
  | [d1, d2, d3] => { results := [.lit (.bool false)], args := [d1, d2, d3] }
  | _ => none }
def DeliverWrongWrongFalsely : Prop := deliverWrongRow.holds Try.pinned (OpenSpec.ofChange deliverWrongWrong)

/- THE SECOND FORM. 'bulk': how many values and letters a reading holds, each counted each time it is reached (what is shared counts as often as it is met; a slice's spare places count too). A statement '..UptoSaid' is the law's where the arguments, and the package variables that the reading takes, are together of bulk at most 1048576: NARROWER than '..Said'. Prove '..Said' where nothing that the law and all that it calls make is longer than what came in: it says more and counts as full. Else prove '..UptoSaid'. A law counts once. -/
mutual
def uptoBulk {H : Type} : DataW H → Nat
  | .lit (.string bytes) => bytes.length + 1
  | .lit _ => 1
  | .nil => 1
  | .ptr d => uptoBulk d + 1
  | .slice elems spare => uptoBulkAll elems + uptoBulkAll spare + 1
  | .agg parts => uptoBulkAll parts + 1
  | .iface _ d => uptoBulk d + 1
  | .map entries => uptoBulkEntries entries + 1
  | .held _ => 1
def uptoBulkAll {H : Type} : List (DataW H) → Nat
  | [] => 0
  | d :: r => uptoBulk d + uptoBulkAll r
def uptoBulkEntries {H : Type} : List (Lit × DataW H) → Nat
  | [] => 0
  | x :: r => uptoBulkEntry x + uptoBulkEntries r
def uptoBulkEntry {H : Type} : Lit × DataW H → Nat
  | (.string bytes, d) => bytes.length + uptoBulk d + 1
  | (_, d) => uptoBulk d + 1
 end
def uptoSmall : (H : Type) → List (DataW H) → Bool := fun _ ds => decide (uptoBulkAll ds ≤ 1048576)
def OpenSpec.upto (s : _root_.Go.ChangeSpec) : _root_.Go.OpenSpec := { _root_.Go.OpenSpec.ofChange s with cond := some uptoSmall }

/-- 'letterbaglaw13.DeliverApart', WHERE WHAT IT READS IS OF BULK AT MOST 1048576: true; the input reads as it did. -/
def deliverApartUptoRow : OpenClaim := { program := "ytbejfbekamikpaa", sum := "c156ed56a3a0dbd3bf4cf59001e344655283fa2b2bcd2563aba53d884dbcb3ce", func := "letterbag/letterbaglaw13.DeliverApart", spec := "deliverApart", unfollowed := true, recurses := true, apart := false, narrowed := true }
def DeliverApartUptoSaid : Prop := deliverApartUptoRow.holds Try.pinned (OpenSpec.upto deliverApartSpec)

/-- 'letterbaglaw13.DeliverMore', WHERE WHAT IT READS IS OF BULK AT MOST 1048576: true; the input reads as it did. -/
def deliverMoreUptoRow : OpenClaim := { program := "ytbejfbekamikpaa", sum := "c156ed56a3a0dbd3bf4cf59001e344655283fa2b2bcd2563aba53d884dbcb3ce", func := "letterbag/letterbaglaw13.DeliverMore", spec := "deliverMore", unfollowed := true, recurses := true, apart := false, narrowed := true }
def DeliverMoreUptoSaid : Prop := deliverMoreUptoRow.holds Try.pinned (OpenSpec.upto deliverMoreSpec)

/-- 'letterbaglaw13.DeliverNext', WHERE WHAT IT READS IS OF BULK AT MOST 1048576: true; the input reads as it did. -/
def deliverNextUptoRow : OpenClaim := { program := "ytbejfbekamikpaa", sum := "c156ed56a3a0dbd3bf4cf59001e344655283fa2b2bcd2563aba53d884dbcb3ce", func := "letterbag/letterbaglaw13.DeliverNext", spec := "deliverNext", unfollowed := true, recurses := true, apart := false, narrowed := true }
def DeliverNextUptoSaid : Prop := deliverNextUptoRow.holds Try.pinned (OpenSpec.upto deliverNextSpec)

/-- 'letterbaglaw13.DeliverYears', WHERE WHAT IT READS IS OF BULK AT MOST 1048576: true; the input reads as it did. -/
def deliverYearsUptoRow : OpenClaim := { program := "ytbejfbekamikpaa", sum := "c156ed56a3a0dbd3bf4cf59001e344655283fa2b2bcd2563aba53d884dbcb3ce", func := "letterbag/letterbaglaw13.DeliverYears", spec := "deliverYears", unfollowed := true, recurses := true, apart := false, narrowed := true }
def DeliverYearsUptoSaid : Prop := deliverYearsUptoRow.holds Try.pinned (OpenSpec.upto deliverYearsSpec)

/-- 'letterbaglaw13.DeliverValid', WHERE WHAT IT READS IS OF BULK AT MOST 1048576: true; the input reads as it did. -/
def deliverValidUptoRow : OpenClaim := { program := "ytbejfbekamikpaa", sum := "c156ed56a3a0dbd3bf4cf59001e344655283fa2b2bcd2563aba53d884dbcb3ce", func := "letterbag/letterbaglaw13.DeliverValid", spec := "deliverValid", unfollowed := true, recurses := true, apart := false, narrowed := true }
def DeliverValidUptoSaid : Prop := deliverValidUptoRow.holds Try.pinned (OpenSpec.upto deliverValidSpec)

/-- 'letterbaglaw13.DeliverSmall', WHERE WHAT IT READS IS OF BULK AT MOST 1048576: true; the input reads as it did. -/
def deliverSmallUptoRow : OpenClaim := { program := "ytbejfbekamikpaa", sum := "c156ed56a3a0dbd3bf4cf59001e344655283fa2b2bcd2563aba53d884dbcb3ce", func := "letterbag/letterbaglaw13.DeliverSmall", spec := "deliverSmall", unfollowed := true, recurses := true, apart := false, narrowed := true }
def DeliverSmallUptoSaid : Prop := deliverSmallUptoRow.holds Try.pinned (OpenSpec.upto deliverSmallSpec)

/-- 'letterbaglaw13.DeliverRules', WHERE WHAT IT READS IS OF BULK AT MOST 1048576: true; the input reads as it did. -/
def deliverRulesUptoRow : OpenClaim := { program := "ytbejfbekamikpaa", sum := "c156ed56a3a0dbd3bf4cf59001e344655283fa2b2bcd2563aba53d884dbcb3ce", func := "letterbag/letterbaglaw13.DeliverRules", spec := "deliverRules", unfollowed := true, recurses := true, apart := false, narrowed := true }
def DeliverRulesUptoSaid : Prop := deliverRulesUptoRow.holds Try.pinned (OpenSpec.upto deliverRulesSpec)

/-- 'letterbaglaw13.DeliverWrong', WHERE WHAT IT READS IS OF BULK AT MOST 1048576: true; the input reads as it did. -/
def deliverWrongUptoRow : OpenClaim := { program := "ytbejfbekamikpaa", sum := "c156ed56a3a0dbd3bf4cf59001e344655283fa2b2bcd2563aba53d884dbcb3ce", func := "letterbag/letterbaglaw13.DeliverWrong", spec := "deliverWrong", unfollowed := true, recurses := true, apart := false, narrowed := true }
def DeliverWrongUptoSaid : Prop := deliverWrongUptoRow.holds Try.pinned (OpenSpec.upto deliverWrongSpec)

end Rows
end Go.Proofs.Ytbejfbekamikpaa
