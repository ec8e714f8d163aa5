/-
  No cell of these rows narrows 'for every input' (looked for: loops, veiled, ifaces, maps, wideKeys, modest, calm, conditions, laid).
  DERIVED. THE GIVEN ROWS OF THIS SEAT. 16 by the template 'for every input the law returns true; each argument reads behind the call as it read before'; 0 by the template 'total and deterministic' (their statements: YtmcmmmaffdenjaaTotals.lean).
  GIVEN WITH THE SEED: the statements are not yours to turn. If you find one false, say at which input.
  Laid BY PROGRAM, IN A SANDBOX (cutbox-rows.mjs): the forced cells as the released guide's own fill.sh prints them over the translation e70f79d21df42160… (all of the seat's roots in one cut). By AI agents, Wed Nov 11 2026. No macro, syntax, notation, axiom, sorry.
-/
import Derived.Test.YtmcmmmaffdenjaaChecked
import GoSem.Claim
import GoSem.ClaimJoined
import GoSem.ClaimMapViews
import Derived.JoinedTies
import Derived.KernelRfl
namespace Go.Proofs.Ytmcmmmaffdenjaa
/- THE CELL 'sum', in the pinned program and in every row, IS THE sha256 OF THE DUMP (.gsa) THAT YtmcmmmaffdenjaaProg.lean LOADS. Nothing in Lean hashes anything: it is a label: what it is worth is what the hold of that sum in a sandbox is worth. -/
noncomputable def Try.pinned : Pinned := { name := "ytmcmmmaffdenjaa", sum := "e70f79d21df42160a2db280560b868f7d889cd2b6e6bdf48f98c32a7811ed5a8", checked := Try.checked }
namespace Rows
def none {H : Type} : Left H := { results := [], args := [] }

/-- 'letterbaglaw35.OrderTells': WHATEVER THE INPUT: true; the input reads as it did. -/
def orderTellsSpec : ChangeSpec := { name := "orderTells", fn := fun _ => fun
  | [d1, d2, d3, d4] => { results := [.lit (.bool true)], args := [d1, d2, d3, d4] }
  | _ => none }
def orderTellsRow : OpenClaim := { program := "ytmcmmmaffdenjaa", sum := "e70f79d21df42160a2db280560b868f7d889cd2b6e6bdf48f98c32a7811ed5a8", func := "letterbag/letterbaglaw35.OrderTells", spec := "orderTells", unfollowed := true, recurses := true, apart := false }
def OrderTellsSaid : Prop := orderTellsRow.holds Try.pinned (OpenSpec.ofChange orderTellsSpec)

/-- ITS FALSE NEIGHBOUR: 'it returns false'. Refute it at one input. -/
def orderTellsWrong : ChangeSpec := { name := "orderTells", fn := fun _ => fun
  | [d1, d2, d3, d4] => { results := [.lit (.bool false)], args := [d1, d2, d3, d4] }
  | _ => none }
def OrderTellsWrongFalsely : Prop := orderTellsRow.holds Try.pinned (OpenSpec.ofChange orderTellsWrong)

/-- 'letterbaglaw35.OrderRules': WHATEVER THE INPUT: true; the input reads as it did. -/
def orderRulesSpec : ChangeSpec := { name := "orderRules", fn := fun _ => fun
  | [d1, d2, d3] => { results := [.lit (.bool true)], args := [d1, d2, d3] }
  | _ => none }
def orderRulesRow : OpenClaim := { program := "ytmcmmmaffdenjaa", sum := "e70f79d21df42160a2db280560b868f7d889cd2b6e6bdf48f98c32a7811ed5a8", func := "letterbag/letterbaglaw35.OrderRules", spec := "orderRules", unfollowed := true, recurses := true, apart := false }
def OrderRulesSaid : Prop := orderRulesRow.holds Try.pinned (OpenSpec.ofChange orderRulesSpec)

/-- ITS FALSE NEIGHBOUR: 'it returns false'. Refute it at one input. -/
def orderRulesWrong : ChangeSpec := { name := "orderRules", fn := fun _ => fun
  | [d1, d2, d3] => { results := [.lit (.bool false)], args := [d1, d2, d3] }
  | _ => none }
def OrderRulesWrongFalsely : Prop := orderRulesRow.holds Try.pinned (OpenSpec.ofChange orderRulesWrong)

/-- 'letterbaglaw35.OrderSpans': WHATEVER THE INPUT: true; the input reads as it did. -/
def orderSpansSpec : ChangeSpec := { name := "orderSpans", fn := fun _ => fun
  | [d1, d2, d3, d4] => { results := [.lit (.bool true)], args := [d1, d2, d3, d4] }
  | _ => none }
def orderSpansRow : OpenClaim := { program := "ytmcmmmaffdenjaa", sum := "e70f79d21df42160a2db280560b868f7d889cd2b6e6bdf48f98c32a7811ed5a8", func := "letterbag/letterbaglaw35.OrderSpans", spec := "orderSpans", unfollowed := true, recurses := true, apart := false }
def OrderSpansSaid : Prop := orderSpansRow.holds Try.pinned (OpenSpec.ofChange orderSpansSpec)

/-- ITS FALSE NEIGHBOUR: 'it returns false'. Refute it at one input. -/
def orderSpansWrong : ChangeSpec := { name := "orderSpans", fn := fun _ => fun
  | [d1, d2, d3, d4] => { results := [.lit (.bool false)], args := [d1, d2, d3, d4] }
  | _ => none }
def OrderSpansWrongFalsely : Prop := orderSpansRow.holds Try.pinned (OpenSpec.ofChange orderSpansWrong)

/-- 'letterbaglaw35.OrderSame': WHATEVER THE INPUT: true; the input reads as it did. -/
def orderSameSpec : ChangeSpec := { name := "orderSame", fn := fun _ => fun
  | [d1, d2, d3, d4] => { results := [.lit (.bool true)], args := [d1, d2, d3, d4] }
  | _ => none }
def orderSameRow : OpenClaim := { program := "ytmcmmmaffdenjaa", sum := "e70f79d21df42160a2db280560b868f7d889cd2b6e6bdf48f98c32a7811ed5a8", func := "letterbag/letterbaglaw35.OrderSame", spec := "orderSame", unfollowed := true, recurses := true, apart := false }
def OrderSameSaid : Prop := orderSameRow.holds Try.pinned (OpenSpec.ofChange orderSameSpec)

/-- ITS FALSE NEIGHBOUR: 'it returns false'. Refute it at one input. -/
def orderSameWrong : ChangeSpec := { name := "orderSame", fn := fun _ => fun
  | [d1, d2, d3, d4] => { results := [.lit (.bool false)], args := [d1, d2, d3, d4] }
  | _ => none }
def OrderSameWrongFalsely : Prop := orderSameRow.holds Try.pinned (OpenSpec.ofChange orderSameWrong)

/-- 'letterbaglaw35.OrderCancels': WHATEVER THE INPUT: true; the input reads as it did. -/
def orderCancelsSpec : ChangeSpec := { name := "orderCancels", fn := fun _ => fun
  | [d1, d2, d3, d4] => { results := [.lit (.bool true)], args := [d1, d2, d3, d4] }
  | _ => none }
def orderCancelsRow : OpenClaim := { program := "ytmcmmmaffdenjaa", sum := "e70f79d21df42160a2db280560b868f7d889cd2b6e6bdf48f98c32a7811ed5a8", func := "letterbag/letterbaglaw35.OrderCancels", spec := "orderCancels", unfollowed := true, recurses := true, apart := false }
def OrderCancelsSaid : Prop := orderCancelsRow.holds Try.pinned (OpenSpec.ofChange orderCancelsSpec)

/-- ITS FALSE NEIGHBOUR: 'it returns false'. Refute it at one input. -/
def orderCancelsWrong : ChangeSpec := { name := "orderCancels", fn := fun _ => fun
  | [d1, d2, d3, d4] => { results := [.lit (.bool false)], args := [d1, d2, d3, d4] }
  | _ => none }
def OrderCancelsWrongFalsely : Prop := orderCancelsRow.holds Try.pinned (OpenSpec.ofChange orderCancelsWrong)

/-- 'letterbaglaw35.OrderAdds': WHATEVER THE INPUT: true; the input reads as it did. -/
def orderAddsSpec : ChangeSpec := { name := "orderAdds", fn := fun _ => fun
  | [d1, d2, d3] => { results := [.lit (.bool true)], args := [d1, d2, d3] }
  | _ => none }
def orderAddsRow : OpenClaim := { program := "ytmcmmmaffdenjaa", sum := "e70f79d21df42160a2db280560b868f7d889cd2b6e6bdf48f98c32a7811ed5a8", func := "letterbag/letterbaglaw35.OrderAdds", spec := "orderAdds", unfollowed := true, recurses := true, apart := false }
def OrderAddsSaid : Prop := orderAddsRow.holds Try.pinned (OpenSpec.ofChange orderAddsSpec)

/-- ITS FALSE NEIGHBOUR: 'it returns false'. Refute it at one input. -/
def orderAddsWrong : ChangeSpec := { name := "orderAdds", fn := fun _ => fun
  | [d1, d2, d3] => { results := [.lit (.bool false)], args := [d1, d2, d3] }
  | _ => none }
def OrderAddsWrongFalsely : Prop := orderAddsRow.holds Try.pinned (OpenSpec.ofChange orderAddsWrong)

/-- 'letterbaglaw35.OrderChanges': WHATEVER THE INPUT: true; the input reads as it did. -/
def orderChangesSpec : ChangeSpec := { name := "orderChanges", fn := fun _ => fun
  | [d1, d2, d3, d4] => { results := [.lit (.bool true)], args := [d1, d2, d3, d4] }
  | _ => none }
def orderChangesRow : OpenClaim := { program := "ytmcmmmaffdenjaa", sum := "e70f79d21df42160a2db280560b868f7d889cd2b6e6bdf48f98c32a7811ed5a8", func := "letterbag/letterbaglaw35.OrderChanges", spec := "orderChanges", unfollowed := true, recurses := true, apart := false }
def OrderChangesSaid : Prop := orderChangesRow.holds Try.pinned (OpenSpec.ofChange orderChangesSpec)

/-- ITS FALSE NEIGHBOUR: 'it returns false'. Refute it at one input. -/
def orderChangesWrong : ChangeSpec := { name := "orderChanges", fn := fun _ => fun
  | [d1, d2, d3, d4] => { results := [.lit (.bool false)], args := [d1, d2, d3, d4] }
  | _ => none }
def OrderChangesWrongFalsely : Prop := orderChangesRow.holds Try.pinned (OpenSpec.ofChange orderChangesWrong)

/-- 'letterbaglaw35.OrderWrong': WHATEVER THE INPUT: true; the input reads as it did. -/
def orderWrongSpec : ChangeSpec := { name := "orderWrong", fn := fun _ => fun
  | [d1, d2, d3, d4] => { results := [.lit (.bool true)], args := [d1, d2, d3, d4] }
  | _ => none }
def orderWrongRow : OpenClaim := { program := "ytmcmmmaffdenjaa", sum := "e70f79d21df42160a2db280560b868f7d889cd2b6e6bdf48f98c32a7811ed5a8", func := "letterbag/letterbaglaw35.OrderWrong", spec := "orderWrong", unfollowed := true, recurses := true, apart := false }
def OrderWrongSaid : Prop := orderWrongRow.holds Try.pinned (OpenSpec.ofChange orderWrongSpec)

/-- ITS FALSE NEIGHBOUR: 'it returns false'. Refute it at one input. -/
def orderWrongWrong : ChangeSpec := { name := "orderWrong", fn := fun _ => fun
  | [d1, d2, d3, d4] => { results := [.lit (.bool false)], args := [d1, d2, d3, d4] }
  | _ => none }
def OrderWrongWrongFalsely : Prop := orderWrongRow.holds Try.pinned (OpenSpec.ofChange orderWrongWrong)

/-- 'letterbaglaw36.ForwardTells': WHATEVER THE INPUT: true; the input reads as it did. -/
def forwardTellsSpec : ChangeSpec := { name := "forwardTells", fn := fun _ => fun
  | [d1, d2, d3] => { results := [.lit (.bool true)], args := [d1, d2, d3] }
  | _ => none }
def forwardTellsRow : OpenClaim := { program := "ytmcmmmaffdenjaa", sum := "e70f79d21df42160a2db280560b868f7d889cd2b6e6bdf48f98c32a7811ed5a8", func := "letterbag/letterbaglaw36.ForwardTells", spec := "forwardTells", unfollowed := true, recurses := true, apart := false }
def ForwardTellsSaid : Prop := forwardTellsRow.holds Try.pinned (OpenSpec.ofChange forwardTellsSpec)

/-- ITS FALSE NEIGHBOUR: 'it returns false'. Refute it at one input. -/
def forwardTellsWrong : ChangeSpec := { name := "forwardTells", fn := fun _ => fun
  | [d1, d2, d3] => { results := [.lit (.bool false)], args := [d1, d2, d3] }
  | _ => none }
def ForwardTellsWrongFalsely : Prop := forwardTellsRow.holds Try.pinned (OpenSpec.ofChange forwardTellsWrong)

/-- 'letterbaglaw36.ForwardEnds': WHATEVER THE INPUT: true; the input reads as it did. -/
def forwardEndsSpec : ChangeSpec := { name := "forwardEnds", fn := fun _ => fun
  | [d1, d2, d3] => { results := [.lit (.bool true)], args := [d1, d2, d3] }
  | _ => none }
def forwardEndsRow : OpenClaim := { program := "ytmcmmmaffdenjaa", sum := "e70f79d21df42160a2db280560b868f7d889cd2b6e6bdf48f98c32a7811ed5a8", func := "letterbag/letterbaglaw36.ForwardEnds", spec := "forwardEnds", unfollowed := true, recurses := true, apart := false }
def ForwardEndsSaid : Prop := forwardEndsRow.holds Try.pinned (OpenSpec.ofChange forwardEndsSpec)

/-- ITS FALSE NEIGHBOUR: 'it returns false'. Refute it at one input. -/
def forwardEndsWrong : ChangeSpec := { name := "forwardEnds", fn := fun _ => fun
  | [d1, d2, d3] => { results := [.lit (.bool false)], args := [d1, d2, d3] }
  | _ => none }
def ForwardEndsWrongFalsely : Prop := forwardEndsRow.holds Try.pinned (OpenSpec.ofChange forwardEndsWrong)

/-- 'letterbaglaw36.ForwardRest': WHATEVER THE INPUT: true; the input reads as it did. -/
def forwardRestSpec : ChangeSpec := { name := "forwardRest", fn := fun _ => fun
  | [d1, d2, d3] => { results := [.lit (.bool true)], args := [d1, d2, d3] }
  | _ => none }
def forwardRestRow : OpenClaim := { program := "ytmcmmmaffdenjaa", sum := "e70f79d21df42160a2db280560b868f7d889cd2b6e6bdf48f98c32a7811ed5a8", func := "letterbag/letterbaglaw36.ForwardRest", spec := "forwardRest", unfollowed := true, recurses := true, apart := false }
def ForwardRestSaid : Prop := forwardRestRow.holds Try.pinned (OpenSpec.ofChange forwardRestSpec)

/-- ITS FALSE NEIGHBOUR: 'it returns false'. Refute it at one input. -/
def forwardRestWrong : ChangeSpec := { name := "forwardRest", fn := fun _ => fun
  | [d1, d2, d3] => { results := [.lit (.bool false)], args := [d1, d2, d3] }
  | _ => none }
def ForwardRestWrongFalsely : Prop := forwardRestRow.holds Try.pinned (OpenSpec.ofChange forwardRestWrong)

/-- 'letterbaglaw36.ForwardLoops': WHATEVER THE INPUT: true; the input reads as it did. -/
def forwardLoopsSpec : ChangeSpec := { name := "forwardLoops", fn := fun _ => fun
  | [d1, d2] => { results := [.lit (.bool true)], args := [d1, d2] }
  | _ => none }
def forwardLoopsRow : OpenClaim := { program := "ytmcmmmaffdenjaa", sum := "e70f79d21df42160a2db280560b868f7d889cd2b6e6bdf48f98c32a7811ed5a8", func := "letterbag/letterbaglaw36.ForwardLoops", spec := "forwardLoops", unfollowed := true, recurses := true, apart := false }
def ForwardLoopsSaid : Prop := forwardLoopsRow.holds Try.pinned (OpenSpec.ofChange forwardLoopsSpec)

/-- ITS FALSE NEIGHBOUR: 'it returns false'. Refute it at one input. -/
def forwardLoopsWrong : ChangeSpec := { name := "forwardLoops", fn := fun _ => fun
  | [d1, d2] => { results := [.lit (.bool false)], args := [d1, d2] }
  | _ => none }
def ForwardLoopsWrongFalsely : Prop := forwardLoopsRow.holds Try.pinned (OpenSpec.ofChange forwardLoopsWrong)

/-- 'letterbaglaw36.ForwardReleases': WHATEVER THE INPUT: true; the input reads as it did. -/
def forwardReleasesSpec : ChangeSpec := { name := "forwardReleases", fn := fun _ => fun
  | [d1, d2, d3] => { results := [.lit (.bool true)], args := [d1, d2, d3] }
  | _ => none }
def forwardReleasesRow : OpenClaim := { program := "ytmcmmmaffdenjaa", sum := "e70f79d21df42160a2db280560b868f7d889cd2b6e6bdf48f98c32a7811ed5a8", func := "letterbag/letterbaglaw36.ForwardReleases", spec := "forwardReleases", unfollowed := true, recurses := true, apart := false }
def ForwardReleasesSaid : Prop := forwardReleasesRow.holds Try.pinned (OpenSpec.ofChange forwardReleasesSpec)

/-- ITS FALSE NEIGHBOUR: 'it returns false'. Refute it at one input. -/
def forwardReleasesWrong : ChangeSpec := { name := "forwardReleases", fn := fun _ => fun
  | [d1, d2, d3] => { results := [.lit (.bool false)], args := [d1, d2, d3] }
  | _ => none }
def ForwardReleasesWrongFalsely : Prop := forwardReleasesRow.holds Try.pinned (OpenSpec.ofChange forwardReleasesWrong)

/-- 'letterbaglaw36.ForwardLists': WHATEVER THE INPUT: true; the input reads as it did. -/
def forwardListsSpec : ChangeSpec := { name := "forwardLists", fn := fun _ => fun
  | [d1, d2, d3, d4] => { results := [.lit (.bool true)], args := [d1, d2, d3, d4] }
  | _ => none }
def forwardListsRow : OpenClaim := { program := "ytmcmmmaffdenjaa", sum := "e70f79d21df42160a2db280560b868f7d889cd2b6e6bdf48f98c32a7811ed5a8", func := "letterbag/letterbaglaw36.ForwardLists", spec := "forwardLists", unfollowed := true, recurses := true, apart := false }
def ForwardListsSaid : Prop := forwardListsRow.holds Try.pinned (OpenSpec.ofChange forwardListsSpec)

/-- ITS FALSE NEIGHBOUR: 'it returns false'. Refute it at one input. -/
def forwardListsWrong : ChangeSpec := { name := "forwardLists", fn := fun _ => fun
  | [d1, d2, d3, d4] => { results := [.lit (.bool false)], args := [d1, d2, d3, d4] }
  | _ => none }
def ForwardListsWrongFalsely : Prop := forwardListsRow.holds Try.pinned (OpenSpec.ofChange forwardListsWrong)

/-- 'letterbaglaw36.ForwardSources': WHATEVER THE INPUT: true; the input reads as it did. -/
def forwardSourcesSpec : ChangeSpec := { name := "forwardSources", fn := fun _ => fun
  | [d1, d2, d3] => { results := [.lit (.bool true)], args := [d1, d2, d3] }
  | _ => none }
def forwardSourcesRow : OpenClaim := { program := "ytmcmmmaffdenjaa", sum := "e70f79d21df42160a2db280560b868f7d889cd2b6e6bdf48f98c32a7811ed5a8", func := "letterbag/letterbaglaw36.ForwardSources", spec := "forwardSources", unfollowed := true, recurses := true, apart := false }
def ForwardSourcesSaid : Prop := forwardSourcesRow.holds Try.pinned (OpenSpec.ofChange forwardSourcesSpec)

/-- ITS FALSE NEIGHBOUR: 'it returns false'. Refute it at one input. -/
def forwardSourcesWrong : ChangeSpec := { name := "forwardSources", fn := fun _ => fun
  | [d1, d2, d3] => { results := [.lit (.bool false)], args := [d1, d2, d3] }
  | _ => none }
def ForwardSourcesWrongFalsely : Prop := forwardSourcesRow.holds Try.pinned (OpenSpec.ofChange forwardSourcesWrong)

/-- 'letterbaglaw36.ForwardWrong': WHATEVER THE INPUT: true; the input reads as it did. -/
def forwardWrongSpec : ChangeSpec := { name := "forwardWrong", fn := fun _ => fun
  | [d1, d2] => { results := [.lit (.bool true)], args := [d1, d2] }
  | _ => none }
def forwardWrongRow : OpenClaim := { program := "ytmcmmmaffdenjaa", sum := "e70f79d21df42160a2db280560b868f7d889cd2b6e6bdf48f98c32a7811ed5a8", func := "letterbag/letterbaglaw36.ForwardWrong", spec := "forwardWrong", unfollowed := true, recurses := true, apart := false }
def ForwardWrongSaid : Prop := forwardWrongRow.holds Try.pinned (OpenSpec.ofChange forwardWrongSpec)

/-- ITS FALSE NEIGHBOUR: 'it returns false'. Refute it at one input. -/
def forwardWrongWrong : ChangeSpec := { name := "forwardWrong", fn := fun _ => fun
  | [d1, d2] => { results := [.lit (.bool false)], args := [d1, d2] }
  | _ => none }
def ForwardWrongWrongFalsely : Prop := forwardWrongRow.holds Try.pinned (OpenSpec.ofChange forwardWrongWrong)

/- THE SECOND FORM. 'bulk': how many values and letters a reading holds, each counted each time it is reached (what is shared counts as often as it is met; a slice's spare places count too). A statement '..UptoSaid' is the law's where the arguments, and the package variables that the reading takes, are together of bulk at most 1048576: NARROWER than '..Said'. Prove '..Said' where nothing that the law and all that it calls make is longer than what came in: it says more and counts as full. Else prove '..UptoSaid'. A law counts once. -/
mutual
def uptoBulk {H : Type} : DataW H → Nat
  | .lit (.string bytes) => bytes.length + 1
  | .lit _ => 1
  | .nil => 1
  | .ptr d => uptoBulk d + 1
  | .slice elems spare => uptoBulkAll elems + uptoBulkAll spare + 1
  | .agg parts => uptoBulkAll parts + 1
  | .iface _ d => uptoBulk d + 1
  | .map entries => uptoBulkEntries entries + 1
  | .held _ => 1
def uptoBulkAll {H : Type} : List (DataW H) → Nat
  | [] => 0
  | d :: r => uptoBulk d + uptoBulkAll r
def uptoBulkEntries {H : Type} : List (Lit × DataW H) → Nat
  | [] => 0
  | x :: r => uptoBulkEntry x + uptoBulkEntries r
def uptoBulkEntry {H : Type} : Lit × DataW H → Nat
  | (.string bytes, d) => bytes.length + uptoBulk d + 1
  | (_, d) => uptoBulk d + 1
 end
def uptoSmall : (H : Type) → List (DataW H) → Bool := fun _ ds => decide (uptoBulkAll ds ≤ 1048576)
def OpenSpec.upto (s : _root_.Go.ChangeSpec) : _root_.Go.OpenSpec := { _root_.Go.OpenSpec.ofChange s with cond := some uptoSmall }

/-- 'letterbaglaw35.OrderTells', WHERE WHAT IT READS IS OF BULK AT MOST 1048576: true; the input reads as it did. -/
def orderTellsUptoRow : OpenClaim := { program := "ytmcmmmaffdenjaa", sum := "e70f79d21df42160a2db280560b868f7d889cd2b6e6bdf48f98c32a7811ed5a8", func := "letterbag/letterbaglaw35.OrderTells", spec := "orderTells", unfollowed := true, recurses := true, apart := false, narrowed := true }
def OrderTellsUptoSaid : Prop := orderTellsUptoRow.holds Try.pinned (OpenSpec.upto orderTellsSpec)

/-- 'letterbaglaw35.OrderRules', WHERE WHAT IT READS IS OF BULK AT MOST 1048576: true; the input reads as it did. -/
def orderRulesUptoRow : OpenClaim := { program := "ytmcmmmaffdenjaa", sum := "e70f79d21df42160a2db280560b868f7d889cd2b6e6bdf48f98c32a7811ed5a8", func := "letterbag/letterbaglaw35.OrderRules", spec := "orderRules", unfollowed := true, recurses := true, apart := false, narrowed := true }
def OrderRulesUptoSaid : Prop := orderRulesUptoRow.holds Try.pinned (OpenSpec.upto orderRulesSpec)

/-- 'letterbaglaw35.OrderSpans', WHERE WHAT IT READS IS OF BULK AT MOST 1048576: true; the input reads as it did. -/
def orderSpansUptoRow : OpenClaim := { program := "ytmcmmmaffdenjaa", sum := "e70f79d21df42160a2db280560b868f7d889cd2b6e6bdf48f98c32a7811ed5a8", func := "letterbag/letterbaglaw35.OrderSpans", spec := "orderSpans", unfollowed := true, recurses := true, apart := false, narrowed := true }
def OrderSpansUptoSaid : Prop := orderSpansUptoRow.holds Try.pinned (OpenSpec.upto orderSpansSpec)

/-- 'letterbaglaw35.OrderSame', WHERE WHAT IT READS IS OF BULK AT MOST 1048576: true; the input reads as it did. -/
def orderSameUptoRow : OpenClaim := { program := "ytmcmmmaffdenjaa", sum := "e70f79d21df42160a2db280560b868f7d889cd2b6e6bdf48f98c32a7811ed5a8", func := "letterbag/letterbaglaw35.OrderSame", spec := "orderSame", unfollowed := true, recurses := true, apart := false, narrowed := true }
def OrderSameUptoSaid : Prop := orderSameUptoRow.holds Try.pinned (OpenSpec.upto orderSameSpec)

/-- 'letterbaglaw35.OrderCancels', WHERE WHAT IT READS IS OF BULK AT MOST 1048576: true; the input reads as it did. -/
def orderCancelsUptoRow : OpenClaim := { program := "ytmcmmmaffdenjaa", sum := "e70f79d21df42160a2db280560b868f7d889cd2b6e6bdf48f98c32a7811ed5a8", func := "letterbag/letterbaglaw35.OrderCancels", spec := "orderCancels", unfollowed := true, recurses := true, apart := false, narrowed := true }
def OrderCancelsUptoSaid : Prop := orderCancelsUptoRow.holds Try.pinned (OpenSpec.upto orderCancelsSpec)

/-- 'letterbaglaw35.OrderAdds', WHERE WHAT IT READS IS OF BULK AT MOST 1048576: true; the input reads as it did. -/
def orderAddsUptoRow : OpenClaim := { program := "ytmcmmmaffdenjaa", sum := "e70f79d21df42160a2db280560b868f7d889cd2b6e6bdf48f98c32a7811ed5a8", func := "letterbag/letterbaglaw35.OrderAdds", spec := "orderAdds", unfollowed := true, recurses := true, apart := false, narrowed := true }
def OrderAddsUptoSaid : Prop := orderAddsUptoRow.holds Try.pinned (OpenSpec.upto orderAddsSpec)

/-- 'letterbaglaw35.OrderChanges', WHERE WHAT IT READS IS OF BULK AT MOST 1048576: true; the input reads as it did. -/
def orderChangesUptoRow : OpenClaim := { program := "ytmcmmmaffdenjaa", sum := "e70f79d21df42160a2db280560b868f7d889cd2b6e6bdf48f98c32a7811ed5a8", func := "letterbag/letterbaglaw35.OrderChanges", spec := "orderChanges", unfollowed := true, recurses := true, apart := false, narrowed := true }
def OrderChangesUptoSaid : Prop := orderChangesUptoRow.holds Try.pinned (OpenSpec.upto orderChangesSpec)

/-- 'letterbaglaw35.OrderWrong', WHERE WHAT IT READS IS OF BULK AT MOST 1048576: true; the input reads as it did. -/
def orderWrongUptoRow : OpenClaim := { program := "ytmcmmmaffdenjaa", sum := "e70f79d21df42160a2db280560b868f7d889cd2b6e6bdf48f98c32a7811ed5a8", func := "letterbag/letterbaglaw35.OrderWrong", spec := "orderWrong", unfollowed := true, recurses := true, apart := false, narrowed := true }
def OrderWrongUptoSaid : Prop := orderWrongUptoRow.holds Try.pinned (OpenSpec.upto orderWrongSpec)

/-- 'letterbaglaw36.ForwardTells', WHERE WHAT IT READS IS OF BULK AT MOST 1048576: true; the input reads as it did. -/
def forwardTellsUptoRow : OpenClaim := { program := "ytmcmmmaffdenjaa", sum := "e70f79d21df42160a2db280560b868f7d889cd2b6e6bdf48f98c32a7811ed5a8", func := "letterbag/letterbaglaw36.ForwardTells", spec := "forwardTells", unfollowed := true, recurses := true, apart := false, narrowed := true }
def ForwardTellsUptoSaid : Prop := forwardTellsUptoRow.holds Try.pinned (OpenSpec.upto forwardTellsSpec)

/-- 'letterbaglaw36.ForwardEnds', WHERE WHAT IT READS IS OF BULK AT MOST 1048576: true; the input reads as it did. -/
def forwardEndsUptoRow : OpenClaim := { program := "ytmcmmmaffdenjaa", sum := "e70f79d21df42160a2db280560b868f7d889cd2b6e6bdf48f98c32a7811ed5a8", func := "letterbag/letterbaglaw36.ForwardEnds", spec := "forwardEnds", unfollowed := true, recurses := true, apart := false, narrowed := true }
def ForwardEndsUptoSaid : Prop := forwardEndsUptoRow.holds Try.pinned (OpenSpec.upto forwardEndsSpec)

/-- 'letterbaglaw36.ForwardRest', WHERE WHAT IT READS IS OF BULK AT MOST 1048576: true; the input reads as it did. -/
def forwardRestUptoRow : OpenClaim := { program := "ytmcmmmaffdenjaa", sum := "e70f79d21df42160a2db280560b868f7d889cd2b6e6bdf48f98c32a7811ed5a8", func := "letterbag/letterbaglaw36.ForwardRest", spec := "forwardRest", unfollowed := true, recurses := true, apart := false, narrowed := true }
def ForwardRestUptoSaid : Prop := forwardRestUptoRow.holds Try.pinned (OpenSpec.upto forwardRestSpec)

/-- 'letterbaglaw36.ForwardLoops', WHERE WHAT IT READS IS OF BULK AT MOST 1048576: true; the input reads as it did. -/
def forwardLoopsUptoRow : OpenClaim := { program := "ytmcmmmaffdenjaa", sum := "e70f79d21df42160a2db280560b868f7d889cd2b6e6bdf48f98c32a7811ed5a8", func := "letterbag/letterbaglaw36.ForwardLoops", spec := "forwardLoops", unfollowed := true, recurses := true, apart := false, narrowed := true }
def ForwardLoopsUptoSaid : Prop := forwardLoopsUptoRow.holds Try.pinned (OpenSpec.upto forwardLoopsSpec)

/-- 'letterbaglaw36.ForwardReleases', WHERE WHAT IT READS IS OF BULK AT MOST 1048576: true; the input reads as it did. -/
def forwardReleasesUptoRow : OpenClaim := { program := "ytmcmmmaffdenjaa", sum := "e70f79d21df42160a2db280560b868f7d889cd2b6e6bdf48f98c32a7811ed5a8", func := "letterbag/letterbaglaw36.ForwardReleases", spec := "forwardReleases", unfollowed := true, recurses := true, apart := false, narrowed := true }
def ForwardReleasesUptoSaid : Prop := forwardReleasesUptoRow.holds Try.pinned (OpenSpec.upto forwardReleasesSpec)

/-- 'letterbaglaw36.ForwardLists', WHERE WHAT IT READS IS OF BULK AT MOST 1048576: true; the input reads as it did. -/
def forwardListsUptoRow : OpenClaim := { program := "ytmcmmmaffdenjaa", sum := "e70f79d21df42160a2db280560b868f7d889cd2b6e6bdf48f98c32a7811ed5a8", func := "letterbag/letterbaglaw36.ForwardLists", spec := "forwardLists", unfollowed := true, recurses := true, apart := false, narrowed := true }
def ForwardListsUptoSaid : Prop := forwardListsUptoRow.holds Try.pinned (OpenSpec.upto forwardListsSpec)

/-- 'letterbaglaw36.ForwardSources', WHERE WHAT IT READS IS OF BULK AT MOST 1048576: true; the input reads as it did. -/
def forwardSourcesUptoRow : OpenClaim := { program := "ytmcmmmaffdenjaa", sum := "e70f79d21df42160a2db280560b868f7d889cd2b6e6bdf48f98c32a7811ed5a8", func := "letterbag/letterbaglaw36.ForwardSources", spec := "forwardSources", unfollowed := true, recurses := true, apart := false, narrowed := true }
def ForwardSourcesUptoSaid : Prop := forwardSourcesUptoRow.holds Try.pinned (OpenSpec.upto forwardSourcesSpec)

/-- 'letterbaglaw36.ForwardWrong', WHERE WHAT IT READS IS OF BULK AT MOST 1048576: true; the input reads as it did. -/
def forwardWrongUptoRow : OpenClaim := { program := "ytmcmmmaffdenjaa", sum := "e70f79d21df42160a2db280560b868f7d889cd2b6e6bdf48f98c32a7811ed5a8", func := "letterbag/letterbaglaw36.ForwardWrong", spec := "forwardWrong", unfollowed := true, recurses := true, apart := false, narrowed := true }
def ForwardWrongUptoSaid : Prop := forwardWrongUptoRow.holds Try.pinned (OpenSpec.upto forwardWrongSpec)

end Rows
end Go.Proofs.Ytmcmmmaffdenjaa
