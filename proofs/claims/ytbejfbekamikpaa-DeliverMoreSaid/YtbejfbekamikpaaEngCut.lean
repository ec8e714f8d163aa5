/-
  Ways that meet again: what follows is shown once.
-/
import Derived.Test.YtbejfbekamikpaaEngDraw
namespace Go.Proofs.Ytbejfbekamikpaa
namespace Eng
open Go.RowKit
set_option linter.unusedVariables false
section
variable {C : Cx} {F : Fr} {L Lp : List HA} {K : List KI} {ops : Array Oper} {fuel : Nat} {listed : Array Bool}
theorem ja_cut {ι : Type} (I : ι → Prop) (F' : ι → Fr) (L' : ι → List HA) (main : (∀ i, I i → SQ C .normal K (F' i) (L' i)) → JA C ops (kpost C K .normal) Lp fuel listed F L) (tail : ∀ i, I i → SQ C .normal K (F' i) (L' i)) : JA C ops (kpost C K .normal) Lp fuel listed F L := main tail
theorem sc_cut {ι : Type} (I : ι → Prop) (F' : ι → Fr) (L' : ι → List HA) {c : Code} {id : Nat} (main : (∀ i, I i → SQ C .normal K (F' i) (L' i)) → SC C c (.blk id :: K) F L) (tail : ∀ i, I i → SQ C .normal K (F' i) (L' i)) : SC C c (.blk id :: K) F L := main tail
theorem sc_cutq {ι : Type} (I : ι → Prop) (F' : ι → Fr) (L' : ι → List HA) {c d : Code} (main : (∀ i, I i → SC C d K (F' i) (L' i)) → SC C c (.seq d :: K) F L) (tail : ∀ i, I i → SC C d K (F' i) (L' i)) : SC C c (.seq d :: K) F L := main tail
end
end Eng
end Go.Proofs.Ytbejfbekamikpaa
