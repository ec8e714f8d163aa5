/-
  A new beginning in the middle of a function: what the call has made so far is taken as given memory, which is only read from here on.
-/
import Derived.Test.YtmcmmmaffdenjaaEngMore
namespace Go.Proofs.Ytmcmmmaffdenjaa
namespace Eng
open Go.RowKit
set_option linter.unusedVariables false
def Cx.now (C : Cx) (w1 : World) : Cx := ⟨C.P, C.tab, C.ok, C.fns, C.fok, C.fn, C.R, C.rs, C.hrs, C.Qr, w1, C.n, Cold, C.rd, C.ds⟩
theorem kpost_now (C : Cx) (w1 : World) : ∀ K, kpost (C.now w1) K = kpost C K
  | [] => rfl
  | .seq c :: K => by simp only [kpost, kpost_now C w1 K]; rfl
  | .blk id :: K => by simp only [kpost, kpost_now C w1 K]
  | .loop J :: K => by simp only [kpost, kpost_now C w1 K]
  | .fin J :: K => rfl
section
variable {C : Cx} {F : Fr} {L : List HA} {K : List KI}
theorem sc_now {c : Code} (h : ∀ w1, St C.w0 C.hot L w1 → SC ⟨C.P, C.tab, C.ok, C.fns, C.fok, C.fn, C.R, C.rs, C.hrs, C.Qr, w1, C.n, Cold, C.rd, C.ds⟩ c K F []) : SC C c K F L := fun a w hf hs => by
  have := h w hs a w hf (St.start w Cold)
  have e : kpost (C.now w) K = kpost C K := kpost_now C w K
  unfold Cx.now at e
  rwa [e] at this
theorem sc_fr {c : Code} {F' : Fr} (hs : FSub F' F) (h : SC C c K F' L) : SC C c K F L := fun a w hf hS => h a w (hf.sub hs) hS
/-- A loop, from a world in which all that was made is only read. -/
theorem sc_own_nil_at {c : Code} (e sz : Nat) (h : SC C c K F (.own (.slice none 0 0) e sz 0 [] :: L)) : SC C c K F L := fun a w hf hs => h a w hf hs.own_nil
end
section
variable {C : Cx} {F : Fr} {L : List HA} {o : Oper}
theorem q_load_extb {t : Nat} {x : Operand} {ti : TI} {b p : Nat} {cs : List Value} {v : Value} (ho : o.op = .load t x) (hx : ev F x = some (.pointer (some ⟨b, p, none⟩))) (ht : tget C.tab t = some ti) (hk : ti.kind.agg = false)
    (hE : ExtC C ⟨b, 0, none⟩ cs) (hv : nth cs p = some v) : Qv C o F L v :=
  .of_run fun a w hf hs => by
    have h1 := hE.now hs p v hv
    rw [add_own, Nat.zero_add] at h1
    have := run_loadOne (C.ok.get ht) hk h1
    simp [execOp, ho, hf.ev hx, Instr.loadAt, Instr.sureAddr, this]
theorem q_loadA_extb {t : Nat} {x : Operand} {ti : TI} {b p : Nat} {cs : List Value} (ho : o.op = .load t x) (hx : ev F x = some (.pointer (some ⟨b, p, none⟩))) (ht : tget C.tab t = some ti) (hk : ti.kind.agg = true)
    (hE : ExtC C ⟨b, 0, none⟩ cs) (hl : ti.size = len (sub cs p ti.size)) : Qv C o F L (.agg (sub cs p ti.size).toArray) :=
  .of_run fun a w hf hs => by
    have := run_loadAgg (C.ok.get ht) hk (ad := ⟨b, p, none⟩) (w := w) hl (fun j v hv => by
      have h1 := hE.now hs (p + j) v (nth_sub _ _ _ _ _ hv)
      rw [add_own, Nat.zero_add] at h1
      rw [add_own]
      exact h1)
    simp [execOp, ho, hf.ev hx, Instr.loadAt, Instr.sureAddr, this]
end
theorem below_then {w0 w1 w2 : World} {L : List HA} (h : Below w0.heap.size w0 w1) (hS : St w1 Cold L w2) : Below w0.heap.size w0 w2 := h.trans (hS.below.mono h.size)
end Eng
end Go.Proofs.Ytmcmmmaffdenjaa
