/-
  No cell of these rows narrows 'for every input' (looked for: loops, veiled, ifaces, maps, wideKeys, modest, calm, conditions, laid).
  DERIVED. THE GIVEN ROWS OF THIS SEAT. 10 by the template 'for every input the law returns true; each argument reads behind the call as it read before'; 0 by the template 'total and deterministic' (their statements: YtmakokbpadmfbaaGreatTotals.lean).
  GIVEN WITH THE SEED: the statements are not yours to turn. If you find one false, say at which input.
  Laid BY PROGRAM, IN A SANDBOX (cutbox-rows.mjs): the forced cells as the released guide's own fill.sh prints them over the translation 493f1e8ee4cd371d… (all of the seat's roots in one cut). By AI agents, Wed Nov 11 2026. No macro, syntax, notation, axiom, sorry.
-/
import Derived.Test.YtmakokbpadmfbaaGreatChecked
import GoSem.Claim
import GoSem.ClaimJoined
import GoSem.ClaimMapViews
import Derived.JoinedTies
import Derived.KernelRfl
namespace Go.Proofs.YtmakokbpadmfbaaGreat
/- THE CELL 'sum', in the pinned program and in every row, IS THE sha256 OF THE DUMP (.gsa) THAT YtmakokbpadmfbaaGreatProg.lean LOADS. Nothing in Lean hashes anything: it is a label: what it is worth is what the hold of that sum in a sandbox is worth. -/
noncomputable def Tryz.pinned : Pinned := { name := "ytmakokbpadmfbaagreat", sum := "493f1e8ee4cd371db1121d839c940916e33fa9a6f6aca4500cccd4fe4a4c6129", checked := Tryz.checked }
namespace Rows
def none {H : Type} : Left H := { results := [], args := [] }

/-- 'letterbaglaw41.ServiceSums': WHATEVER THE INPUT: true; the input reads as it did. -/
def serviceSumsSpec : ChangeSpec := { name := "serviceSums", fn := fun _ => fun
  | [d1, d2, d3] => { results := [.lit (.bool true)], args := [d1, d2, d3] }
  | _ => none }
def serviceSumsRow : OpenClaim := { program := "ytmakokbpadmfbaagreat", sum := "493f1e8ee4cd371db1121d839c940916e33fa9a6f6aca4500cccd4fe4a4c6129", func := "letterbag/letterbaglaw41.ServiceSums", spec := "serviceSums", unfollowed := true, recurses := true, named := ["math/bits.overflowError"], plainKeys := false, apart := false }
def ServiceSumsSaid : Prop := serviceSumsRow.holds Tryz.pinned (OpenSpec.ofChange serviceSumsSpec)

/-- ITS FALSE NEIGHBOUR: 'it returns false'. Refute it at one input. -/
def serviceSumsWrong : ChangeSpec := { name := "serviceSums", fn := fun _ => fun
  | [d1, d2, d3] => { results := [.lit (.bool false)], args := [d1, d2, d3] }
  | _ => none }
def ServiceSumsWrongFalsely : Prop := serviceSumsRow.holds Tryz.pinned (OpenSpec.ofChange serviceSumsWrong)

/-- 'letterbaglaw41.ServiceWrong': WHATEVER THE INPUT: true; the input reads as it did. -/
def serviceWrongSpec : ChangeSpec := { name := "serviceWrong", fn := fun _ => fun
  | [d1, d2, d3] => { results := [.lit (.bool true)], args := [d1, d2, d3] }
  | _ => none }
def serviceWrongRow : OpenClaim := { program := "ytmakokbpadmfbaagreat", sum := "493f1e8ee4cd371db1121d839c940916e33fa9a6f6aca4500cccd4fe4a4c6129", func := "letterbag/letterbaglaw41.ServiceWrong", spec := "serviceWrong", unfollowed := true, recurses := true, named := ["math/bits.overflowError"], plainKeys := false, apart := false }
def ServiceWrongSaid : Prop := serviceWrongRow.holds Tryz.pinned (OpenSpec.ofChange serviceWrongSpec)

/-- ITS FALSE NEIGHBOUR: 'it returns false'. Refute it at one input. -/
def serviceWrongWrong : ChangeSpec := { name := "serviceWrong", fn := fun _ => fun
  | [d1, d2, d3] => { results := [.lit (.bool false)], args := [d1, d2, d3] }
  | _ => none }
def ServiceWrongWrongFalsely : Prop := serviceWrongRow.holds Tryz.pinned (OpenSpec.ofChange serviceWrongWrong)

/-- 'letterbaglaw41.ServiceTells': WHATEVER THE INPUT: true; the input reads as it did. -/
def serviceTellsSpec : ChangeSpec := { name := "serviceTells", fn := fun _ => fun
  | [d1, d2, d3, d4, d5, d6] => { results := [.lit (.bool true)], args := [d1, d2, d3, d4, d5, d6] }
  | _ => none }
def serviceTellsRow : OpenClaim := { program := "ytmakokbpadmfbaagreat", sum := "493f1e8ee4cd371db1121d839c940916e33fa9a6f6aca4500cccd4fe4a4c6129", func := "letterbag/letterbaglaw41.ServiceTells", spec := "serviceTells", unfollowed := true, recurses := true, named := ["math/bits.overflowError"], plainKeys := false, apart := false }
def ServiceTellsSaid : Prop := serviceTellsRow.holds Tryz.pinned (OpenSpec.ofChange serviceTellsSpec)

/-- ITS FALSE NEIGHBOUR: 'it returns false'. Refute it at one input. -/
def serviceTellsWrong : ChangeSpec := { name := "serviceTells", fn := fun _ => fun
  | [d1, d2, d3, d4, d5, d6] => { results := [.lit (.bool false)], args := [d1, d2, d3, d4, d5, d6] }
  | _ => none }
def ServiceTellsWrongFalsely : Prop := serviceTellsRow.holds Tryz.pinned (OpenSpec.ofChange serviceTellsWrong)

/-- 'letterbaglaw41.ServiceCounts': WHATEVER THE INPUT: true; the input reads as it did. -/
def serviceCountsSpec : ChangeSpec := { name := "serviceCounts", fn := fun _ => fun
  | [d1, d2, d3] => { results := [.lit (.bool true)], args := [d1, d2, d3] }
  | _ => none }
def serviceCountsRow : OpenClaim := { program := "ytmakokbpadmfbaagreat", sum := "493f1e8ee4cd371db1121d839c940916e33fa9a6f6aca4500cccd4fe4a4c6129", func := "letterbag/letterbaglaw41.ServiceCounts", spec := "serviceCounts", unfollowed := true, recurses := true, named := ["math/bits.overflowError"], plainKeys := false, apart := false }
def ServiceCountsSaid : Prop := serviceCountsRow.holds Tryz.pinned (OpenSpec.ofChange serviceCountsSpec)

/-- ITS FALSE NEIGHBOUR: 'it returns false'. Refute it at one input. -/
def serviceCountsWrong : ChangeSpec := { name := "serviceCounts", fn := fun _ => fun
  | [d1, d2, d3] => { results := [.lit (.bool false)], args := [d1, d2, d3] }
  | _ => none }
def ServiceCountsWrongFalsely : Prop := serviceCountsRow.holds Tryz.pinned (OpenSpec.ofChange serviceCountsWrong)

/-- 'letterbaglaw41.ServiceProves': WHATEVER THE INPUT: true; the input reads as it did. -/
def serviceProvesSpec : ChangeSpec := { name := "serviceProves", fn := fun _ => fun
  | [d1, d2, d3, d4] => { results := [.lit (.bool true)], args := [d1, d2, d3, d4] }
  | _ => none }
def serviceProvesRow : OpenClaim := { program := "ytmakokbpadmfbaagreat", sum := "493f1e8ee4cd371db1121d839c940916e33fa9a6f6aca4500cccd4fe4a4c6129", func := "letterbag/letterbaglaw41.ServiceProves", spec := "serviceProves", unfollowed := true, recurses := true, named := ["math/bits.overflowError"], plainKeys := false, apart := false }
def ServiceProvesSaid : Prop := serviceProvesRow.holds Tryz.pinned (OpenSpec.ofChange serviceProvesSpec)

/-- ITS FALSE NEIGHBOUR: 'it returns false'. Refute it at one input. -/
def serviceProvesWrong : ChangeSpec := { name := "serviceProves", fn := fun _ => fun
  | [d1, d2, d3, d4] => { results := [.lit (.bool false)], args := [d1, d2, d3, d4] }
  | _ => none }
def ServiceProvesWrongFalsely : Prop := serviceProvesRow.holds Tryz.pinned (OpenSpec.ofChange serviceProvesWrong)

/-- 'letterbaglaw41.ServiceLater': WHATEVER THE INPUT: true; the input reads as it did. -/
def serviceLaterSpec : ChangeSpec := { name := "serviceLater", fn := fun _ => fun
  | [d1, d2, d3] => { results := [.lit (.bool true)], args := [d1, d2, d3] }
  | _ => none }
def serviceLaterRow : OpenClaim := { program := "ytmakokbpadmfbaagreat", sum := "493f1e8ee4cd371db1121d839c940916e33fa9a6f6aca4500cccd4fe4a4c6129", func := "letterbag/letterbaglaw41.ServiceLater", spec := "serviceLater", unfollowed := true, recurses := true, named := ["math/bits.overflowError"], plainKeys := false, apart := false }
def ServiceLaterSaid : Prop := serviceLaterRow.holds Tryz.pinned (OpenSpec.ofChange serviceLaterSpec)

/-- ITS FALSE NEIGHBOUR: 'it returns false'. Refute it at one input. -/
def serviceLaterWrong : ChangeSpec := { name := "serviceLater", fn := fun _ => fun
  | [d1, d2, d3] => { results := [.lit (.bool false)], args := [d1, d2, d3] }
  | _ => none }
def ServiceLaterWrongFalsely : Prop := serviceLaterRow.holds Tryz.pinned (OpenSpec.ofChange serviceLaterWrong)

/-- 'letterbaglaw41.ServiceMore': WHATEVER THE INPUT: true; the input reads as it did. -/
def serviceMoreSpec : ChangeSpec := { name := "serviceMore", fn := fun _ => fun
  | [d1, d2, d3, d4] => { results := [.lit (.bool true)], args := [d1, d2, d3, d4] }
  | _ => none }
def serviceMoreRow : OpenClaim := { program := "ytmakokbpadmfbaagreat", sum := "493f1e8ee4cd371db1121d839c940916e33fa9a6f6aca4500cccd4fe4a4c6129", func := "letterbag/letterbaglaw41.ServiceMore", spec := "serviceMore", unfollowed := true, recurses := true, named := ["math/bits.overflowError"], plainKeys := false, apart := false }
def ServiceMoreSaid : Prop := serviceMoreRow.holds Tryz.pinned (OpenSpec.ofChange serviceMoreSpec)

/-- ITS FALSE NEIGHBOUR: 'it returns false'. Refute it at one input. -/
def serviceMoreWrong : ChangeSpec := { name := "serviceMore", fn := fun _ => fun
  | [d1, d2, d3, d4] => { results := [.lit (.bool false)], args := [d1, d2, d3, d4] }
  | _ => none }
def ServiceMoreWrongFalsely : Prop := serviceMoreRow.holds Tryz.pinned (OpenSpec.ofChange serviceMoreWrong)

/-- 'letterbaglaw41.ServiceOrder': WHATEVER THE INPUT: true; the input reads as it did. -/
def serviceOrderSpec : ChangeSpec := { name := "serviceOrder", fn := fun _ => fun
  | [d1, d2, d3, d4, d5] => { results := [.lit (.bool true)], args := [d1, d2, d3, d4, d5] }
  | _ => none }
def serviceOrderRow : OpenClaim := { program := "ytmakokbpadmfbaagreat", sum := "493f1e8ee4cd371db1121d839c940916e33fa9a6f6aca4500cccd4fe4a4c6129", func := "letterbag/letterbaglaw41.ServiceOrder", spec := "serviceOrder", unfollowed := true, recurses := true, named := ["math/bits.overflowError"], plainKeys := false, apart := false }
def ServiceOrderSaid : Prop := serviceOrderRow.holds Tryz.pinned (OpenSpec.ofChange serviceOrderSpec)

/-- ITS FALSE NEIGHBOUR: 'it returns false'. Refute it at one input. -/
def serviceOrderWrong : ChangeSpec := { name := "serviceOrder", fn := fun _ => fun
  | [d1, d2, d3, d4, d5] => { results := [.lit (.bool false)], args := [d1, d2, d3, d4, d5] }
  | _ => none }
def ServiceOrderWrongFalsely : Prop := serviceOrderRow.holds Tryz.pinned (OpenSpec.ofChange serviceOrderWrong)

/-- 'letterbaglaw41.ServiceMeasures': WHATEVER THE INPUT: true; the input reads as it did. -/
def serviceMeasuresSpec : ChangeSpec := { name := "serviceMeasures", fn := fun _ => fun
  | [d1, d2, d3, d4, d5, d6, d7, d8] => { results := [.lit (.bool true)], args := [d1, d2, d3, d4, d5, d6, d7, d8] }
  | _ => none }
def serviceMeasuresRow : OpenClaim := { program := "ytmakokbpadmfbaagreat", sum := "493f1e8ee4cd371db1121d839c940916e33fa9a6f6aca4500cccd4fe4a4c6129", func := "letterbag/letterbaglaw41.ServiceMeasures", spec := "serviceMeasures", unfollowed := true, recurses := true, named := ["math/bits.overflowError"], plainKeys := false, apart := false }
def ServiceMeasuresSaid : Prop := serviceMeasuresRow.holds Tryz.pinned (OpenSpec.ofChange serviceMeasuresSpec)

/-- ITS FALSE NEIGHBOUR: 'it returns false'. Refute it at one input. -/
def serviceMeasuresWrong : ChangeSpec := { name := "serviceMeasures", fn := fun _ => fun
  | [d1, d2, d3, d4, d5, d6, d7, d8] => { results := [.lit (.bool false)], args := [d1, d2, d3, d4, d5, d6, d7, d8] }
  | _ => none }
def ServiceMeasuresWrongFalsely : Prop := serviceMeasuresRow.holds Tryz.pinned (OpenSpec.ofChange serviceMeasuresWrong)

/-- 'letterbaglaw41.ServiceSmall': WHATEVER THE INPUT: true; the input reads as it did. -/
def serviceSmallSpec : ChangeSpec := { name := "serviceSmall", fn := fun _ => fun
  | [] => { results := [.lit (.bool true)], args := [] }
  | _ => none }
def serviceSmallRow : OpenClaim := { program := "ytmakokbpadmfbaagreat", sum := "493f1e8ee4cd371db1121d839c940916e33fa9a6f6aca4500cccd4fe4a4c6129", func := "letterbag/letterbaglaw41.ServiceSmall", spec := "serviceSmall", unfollowed := true, recurses := true, named := ["math/bits.overflowError"], plainKeys := false, apart := false }
def ServiceSmallSaid : Prop := serviceSmallRow.holds Tryz.pinned (OpenSpec.ofChange serviceSmallSpec)

/-- ITS FALSE NEIGHBOUR: 'it returns false'. Refute it at one input. -/
def serviceSmallWrong : ChangeSpec := { name := "serviceSmall", fn := fun _ => fun
  | [] => { results := [.lit (.bool false)], args := [] }
  | _ => none }
def ServiceSmallWrongFalsely : Prop := serviceSmallRow.holds Tryz.pinned (OpenSpec.ofChange serviceSmallWrong)

/- THE SECOND FORM. 'bulk': how many values and letters a reading holds, each counted each time it is reached (what is shared counts as often as it is met; a slice's spare places count too). A statement '..UptoSaid' is the law's where the arguments, and the package variables that the reading takes, are together of bulk at most 1048576: NARROWER than '..Said'. Prove '..Said' where nothing that the law and all that it calls make is longer than what came in: it says more and counts as full. Else prove '..UptoSaid'. A law counts once. -/
mutual
def uptoBulk {H : Type} : DataW H → Nat
  | .lit (.string bytes) => bytes.length + 1
  | .lit _ => 1
  | .nil => 1
  | .ptr d => uptoBulk d + 1
  | .slice elems spare => uptoBulkAll elems + uptoBulkAll spare + 1
  | .agg parts => uptoBulkAll parts + 1
  | .iface _ d => uptoBulk d + 1
  | .map entries => uptoBulkEntries entries + 1
  | .held _ => 1
def uptoBulkAll {H : Type} : List (DataW H) → Nat
  | [] => 0
  | d :: r => uptoBulk d + uptoBulkAll r
def uptoBulkEntries {H : Type} : List (Lit × DataW H) → Nat
  | [] => 0
  | x :: r => uptoBulkEntry x + uptoBulkEntries r
def uptoBulkEntry {H : Type} : Lit × DataW H → Nat
  | (.string bytes, d) => bytes.length + uptoBulk d + 1
  | (_, d) => uptoBulk d + 1
 end
def uptoSmall : (H : Type) → List (DataW H) → Bool := fun _ ds => decide (uptoBulkAll ds ≤ 1048576)
def OpenSpec.upto (s : _root_.Go.ChangeSpec) : _root_.Go.OpenSpec := { _root_.Go.OpenSpec.ofChange s with cond := some uptoSmall }

/-- 'letterbaglaw41.ServiceSums', WHERE WHAT IT READS IS OF BULK AT MOST 1048576: true; the input reads as it did. -/
def serviceSumsUptoRow : OpenClaim := { program := "ytmakokbpadmfbaagreat", sum := "493f1e8ee4cd371db1121d839c940916e33fa9a6f6aca4500cccd4fe4a4c6129", func := "letterbag/letterbaglaw41.ServiceSums", spec := "serviceSums", unfollowed := true, recurses := true, named := ["math/bits.overflowError"], plainKeys := false, apart := false, narrowed := true }
def ServiceSumsUptoSaid : Prop := serviceSumsUptoRow.holds Tryz.pinned (OpenSpec.upto serviceSumsSpec)

/-- 'letterbaglaw41.ServiceWrong', WHERE WHAT IT READS IS OF BULK AT MOST 1048576: true; the input reads as it did. -/
def serviceWrongUptoRow : OpenClaim := { program := "ytmakokbpadmfbaagreat", sum := "493f1e8ee4cd371db1121d839c940916e33fa9a6f6aca4500cccd4fe4a4c6129", func := "letterbag/letterbaglaw41.ServiceWrong", spec := "serviceWrong", unfollowed := true, recurses := true, named := ["math/bits.overflowError"], plainKeys := false, apart := false, narrowed := true }
def ServiceWrongUptoSaid : Prop := serviceWrongUptoRow.holds Tryz.pinned (OpenSpec.upto serviceWrongSpec)

/-- 'letterbaglaw41.ServiceTells', WHERE WHAT IT READS IS OF BULK AT MOST 1048576: true; the input reads as it did. -/
def serviceTellsUptoRow : OpenClaim := { program := "ytmakokbpadmfbaagreat", sum := "493f1e8ee4cd371db1121d839c940916e33fa9a6f6aca4500cccd4fe4a4c6129", func := "letterbag/letterbaglaw41.ServiceTells", spec := "serviceTells", unfollowed := true, recurses := true, named := ["math/bits.overflowError"], plainKeys := false, apart := false, narrowed := true }
def ServiceTellsUptoSaid : Prop := serviceTellsUptoRow.holds Tryz.pinned (OpenSpec.upto serviceTellsSpec)

/-- 'letterbaglaw41.ServiceCounts', WHERE WHAT IT READS IS OF BULK AT MOST 1048576: true; the input reads as it did. -/
def serviceCountsUptoRow : OpenClaim := { program := "ytmakokbpadmfbaagreat", sum := "493f1e8ee4cd371db1121d839c940916e33fa9a6f6aca4500cccd4fe4a4c6129", func := "letterbag/letterbaglaw41.ServiceCounts", spec := "serviceCounts", unfollowed := true, recurses := true, named := ["math/bits.overflowError"], plainKeys := false, apart := false, narrowed := true }
def ServiceCountsUptoSaid : Prop := serviceCountsUptoRow.holds Tryz.pinned (OpenSpec.upto serviceCountsSpec)

/-- 'letterbaglaw41.ServiceProves', WHERE WHAT IT READS IS OF BULK AT MOST 1048576: true; the input reads as it did. -/
def serviceProvesUptoRow : OpenClaim := { program := "ytmakokbpadmfbaagreat", sum := "493f1e8ee4cd371db1121d839c940916e33fa9a6f6aca4500cccd4fe4a4c6129", func := "letterbag/letterbaglaw41.ServiceProves", spec := "serviceProves", unfollowed := true, recurses := true, named := ["math/bits.overflowError"], plainKeys := false, apart := false, narrowed := true }
def ServiceProvesUptoSaid : Prop := serviceProvesUptoRow.holds Tryz.pinned (OpenSpec.upto serviceProvesSpec)

/-- 'letterbaglaw41.ServiceLater', WHERE WHAT IT READS IS OF BULK AT MOST 1048576: true; the input reads as it did. -/
def serviceLaterUptoRow : OpenClaim := { program := "ytmakokbpadmfbaagreat", sum := "493f1e8ee4cd371db1121d839c940916e33fa9a6f6aca4500cccd4fe4a4c6129", func := "letterbag/letterbaglaw41.ServiceLater", spec := "serviceLater", unfollowed := true, recurses := true, named := ["math/bits.overflowError"], plainKeys := false, apart := false, narrowed := true }
def ServiceLaterUptoSaid : Prop := serviceLaterUptoRow.holds Tryz.pinned (OpenSpec.upto serviceLaterSpec)

/-- 'letterbaglaw41.ServiceMore', WHERE WHAT IT READS IS OF BULK AT MOST 1048576: true; the input reads as it did. -/
def serviceMoreUptoRow : OpenClaim := { program := "ytmakokbpadmfbaagreat", sum := "493f1e8ee4cd371db1121d839c940916e33fa9a6f6aca4500cccd4fe4a4c6129", func := "letterbag/letterbaglaw41.ServiceMore", spec := "serviceMore", unfollowed := true, recurses := true, named := ["math/bits.overflowError"], plainKeys := false, apart := false, narrowed := true }
def ServiceMoreUptoSaid : Prop := serviceMoreUptoRow.holds Tryz.pinned (OpenSpec.upto serviceMoreSpec)

/-- 'letterbaglaw41.ServiceOrder', WHERE WHAT IT READS IS OF BULK AT MOST 1048576: true; the input reads as it did. -/
def serviceOrderUptoRow : OpenClaim := { program := "ytmakokbpadmfbaagreat", sum := "493f1e8ee4cd371db1121d839c940916e33fa9a6f6aca4500cccd4fe4a4c6129", func := "letterbag/letterbaglaw41.ServiceOrder", spec := "serviceOrder", unfollowed := true, recurses := true, named := ["math/bits.overflowError"], plainKeys := false, apart := false, narrowed := true }
def ServiceOrderUptoSaid : Prop := serviceOrderUptoRow.holds Tryz.pinned (OpenSpec.upto serviceOrderSpec)

/-- 'letterbaglaw41.ServiceMeasures', WHERE WHAT IT READS IS OF BULK AT MOST 1048576: true; the input reads as it did. -/
def serviceMeasuresUptoRow : OpenClaim := { program := "ytmakokbpadmfbaagreat", sum := "493f1e8ee4cd371db1121d839c940916e33fa9a6f6aca4500cccd4fe4a4c6129", func := "letterbag/letterbaglaw41.ServiceMeasures", spec := "serviceMeasures", unfollowed := true, recurses := true, named := ["math/bits.overflowError"], plainKeys := false, apart := false, narrowed := true }
def ServiceMeasuresUptoSaid : Prop := serviceMeasuresUptoRow.holds Tryz.pinned (OpenSpec.upto serviceMeasuresSpec)

/-- 'letterbaglaw41.ServiceSmall', WHERE WHAT IT READS IS OF BULK AT MOST 1048576: true; the input reads as it did. -/
def serviceSmallUptoRow : OpenClaim := { program := "ytmakokbpadmfbaagreat", sum := "493f1e8ee4cd371db1121d839c940916e33fa9a6f6aca4500cccd4fe4a4c6129", func := "letterbag/letterbaglaw41.ServiceSmall", spec := "serviceSmall", unfollowed := true, recurses := true, named := ["math/bits.overflowError"], plainKeys := false, apart := false, narrowed := true }
def ServiceSmallUptoSaid : Prop := serviceSmallUptoRow.holds Tryz.pinned (OpenSpec.upto serviceSmallSpec)

end Rows
end Go.Proofs.YtmakokbpadmfbaaGreat
