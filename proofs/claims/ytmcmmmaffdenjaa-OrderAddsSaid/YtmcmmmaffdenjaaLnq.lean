/-
  In one text: Opl, Ocn, Ochg, Lnq.
-/
import Derived.Test.YtmcmmmaffdenjaaAk5
import Derived.Test.YtmcmmmaffdenjaaLcm
import Derived.Test.YtmcmmmaffdenjaaLno
import Derived.Test.YtmcmmmaffdenjaaEngCoreB
/-
  Plain facts of chapter 35's laws.
-/
namespace Go.Proofs.Ytmcmmmaffdenjaa
open Go.RowKit Eng
set_option linter.unusedVariables false
set_option linter.unusedSimpArgs false
set_option maxHeartbeats 8000000
attribute [local irreducible] SC SQ J Qt Calls Iterates
end Go.Proofs.Ytmcmmmaffdenjaa

/-
  OrderCancels.
-/
namespace Go.Proofs.Ytmcmmmaffdenjaa
open Go.RowKit Eng
set_option linter.unusedVariables false
set_option linter.unusedSimpArgs false
set_option maxHeartbeats 8000000
attribute [local irreducible] SC SQ J Qt Calls Iterates
abbrev neK (k : Int) : Od → Bool := fun x => decide (x.idn ≠ k)
def wantF (k : Int) (Q : List Od) : Int := ((Q.filter (neK k)).head?.map (·.idn)).getD 0
end Go.Proofs.Ytmcmmmaffdenjaa

/-
  OrderChanges.
-/
namespace Go.Proofs.Ytmcmmmaffdenjaa
open Go.RowKit Eng
set_option linter.unusedVariables false
set_option linter.unusedSimpArgs false
set_option maxHeartbeats 8000000
attribute [local irreducible] SC SQ J Qt Calls Iterates
end Go.Proofs.Ytmcmmmaffdenjaa

/-
  letterbagkit: OverOrders.
-/
namespace Go.Proofs.Ytmcmmmaffdenjaa
open Go.RowKit Eng
set_option linter.unusedVariables false
set_option linter.unusedSimpArgs false
set_option maxHeartbeats 8000000
attribute [local irreducible] SC SQ J Qt Calls Iterates
theorem overO_c {w0 w : World} {hot : Nat → Prop} {L : List HA} {L' : List Od → List HA} {ad : Addr} {n c2 : Nat} {l : List Od} (hs : St w0 hot L w) (hn : n ≤ 2000) (hl : l.length = n + 12) (hc : n + 12 ≤ c2) (hin : InL L (.own (.slice (some ad) (n + 12) c2) 30 6 (n + 12) (l.flatMap odC)))
    (hup : ∀ xs : List Od, Upd L (.own (.slice (some ad) (n + 12) c2) 30 6 (n + 12) (l.flatMap odC)) (.own (.slice (some ad) (n + 12) c2) 30 6 (n + 12) (xs.flatMap odC)) (L' xs)) :
    Calls Try.prog 27 #[.slice (some ad) n c2] w fun e w' => ∃ xs : List Od, True ∧ e = .returned (.tuple #[]) ∧ St w0 hot (L' xs) w' := by
  have hle := hs.lent hin trivial
  have hmin : (if (n : Int) + 12 < (c2 : Int) then (n : Int) + 12 else (c2 : Int)) = ((n + 12 : Nat) : Int) := by split <;> omega
  refine eng_start_lent (n := 23) (args := [.slice (some ad) n c2]) tab tab_ok fns fns_ok [] _ _ Try.func27 rfl rfl rfl rfl (hle) ?_
  repeat' (first | (refine gJ ?_; first | refine js rfl rfl rfl rfl ?_ | refine jar rfl rfl rfl rfl rfl rfl rfl (by omega) ?_ | (refine j_qe rfl rfl rfl ?_; refine ⟨_, q_cap_slice rfl rfl rfl rfl, ?_⟩) | (refine j_qe rfl rfl rfl ?_; refine ⟨_, q_minr rfl rfl rfl hmin, ?_⟩) | (refine j_qe rfl rfl rfl ?_; refine ⟨_, q_sliceHi (n + 12) rfl rfl rfl rfl rfl (by omega), ?_⟩) | (refine gF ?_; first | refine j_store rfl rfl rfl rfl rfl rfl rfl rfl (by (repeat constructor)) (by rfl) ?_) | (refine j_qe rfl rfl rfl ?_; first | refine ⟨_, q_index_nat rfl rfl rfl rfl rfl (by omega), ?_⟩ | refine ⟨_, q_index_slice rfl rfl rfl rfl rfl (by omega), ?_⟩ | refine ⟨_, q_index_arr rfl rfl rfl rfl rfl (by omega), ?_⟩ | refine ⟨_, q_index_arr_ext rfl rfl rfl rfl rfl (by omega), ?_⟩ | refine ⟨_, q_len_slice rfl rfl rfl rfl, ?_⟩ | refine ⟨_, q_addu8 rfl rfl rfl (by omega), ?_⟩)) | (refine gSC ?_; first | refine sc_mv rfl ?_ | refine sc_q rfl ?_ | refine sc_region ?_) | (refine gSQ ?_; first | refine sq_go rfl ?_ | refine sq_mv rfl ?_ | refine sq_ende (by first | exact .inl rfl | exact .inr rfl) rfl rfl ⟨_, (RVs.nil), ?_⟩) | refine j_nil ?_ | ((refine sc_cond rfl ?_ ?_) <;> intro hc <;> (first | exact absurd hc (by decide) | ((try simp only [engHC] at hc) <;> first | (exfalso; omega) | exact absurd trivial hc | skip))))
  refine sc_loop (ι := Nat × List Od) (fun i => i.1 ≤ n + 12 ∧ i.2.length = n + 12) (fun i => n + 12 - i.1) (fun i => [(2, .slice (some ad) (n + 12) c2), (3, .int .i64 i.1)]) (fun i => [.own (.slice (some ad) (n + 12) c2) 30 6 (n + 12) (i.2.flatMap odC)]) (0, l) ⟨by omega, hl⟩ (by repeat (first | exact FSub.nil | refine FSub.cons rfl ?_ | refine FSub.conse rfl (by congr 1; omega) ?_)) (by repeat (first | exact LSub.nil | refine LSub.cons (by repeat (first | exact Rem.here | apply Rem.there)) ?_)) ?_
  rintro ⟨i, xs⟩ ⟨hi, hx⟩
  dsimp only at hi hx ⊢
  by_cases hlt : i < n + 12
  · repeat' (first | (refine gJ ?_; first | refine js rfl rfl rfl rfl ?_ | refine jar rfl rfl rfl rfl rfl rfl rfl (by omega) ?_ | (refine gcall rfl rfl ?_; first | (refine j_qc (f := 55) rfl rfl rfl rfl rfl rfl rfl ?_; refine ⟨_, (fun w' _ => markO_c 2 i w' (by omega) (by omega)), ?_⟩)) | (refine j_qe rfl rfl rfl ?_; refine ⟨_, q_index_at i rfl rfl rfl rfl rfl (by omega), ?_⟩) | (refine gF ?_; refine j_store_el (f := odC) (l := xs) i (mkO 2 i) rfl rfl rfl rfl rfl rfl rfl rfl (by (repeat constructor)) (fun _ => rfl) (by omega) rfl (by (repeat constructor)) ?_) | (refine gF ?_; first | refine j_store rfl rfl rfl rfl rfl rfl rfl rfl (by (repeat constructor)) (by rfl) ?_) | (refine j_qe rfl rfl rfl ?_; first | refine ⟨_, q_index_nat rfl rfl rfl rfl rfl (by omega), ?_⟩ | refine ⟨_, q_index_slice rfl rfl rfl rfl rfl (by omega), ?_⟩ | refine ⟨_, q_index_arr rfl rfl rfl rfl rfl (by omega), ?_⟩ | refine ⟨_, q_index_arr_ext rfl rfl rfl rfl rfl (by omega), ?_⟩ | refine ⟨_, q_len_slice rfl rfl rfl rfl, ?_⟩ | refine ⟨_, q_addu8 rfl rfl rfl (by omega), ?_⟩)) | (refine gSC ?_; first | refine sc_mv rfl ?_ | refine sc_q rfl ?_ | refine sc_region ?_) | (refine gSQ ?_; first | refine sq_go rfl ?_ | refine sq_mv rfl ?_ | refine sq_ende (by first | exact .inl rfl | exact .inr rfl) rfl rfl ⟨_, (RVs.nil), ?_⟩) | refine j_nil ?_ | ((refine sc_cond rfl ?_ ?_) <;> intro hc <;> (first | exact absurd hc (by decide) | ((try simp only [engHC] at hc) <;> first | (exfalso; omega) | exact absurd trivial hc | skip))))
    exact sq_loop (i + 1, xs.set i (mkO 2 i)) ⟨by show i + 1 ≤ n + 12; omega, by show (xs.set i _).length = n + 12; rw [List.length_set]; exact hx⟩ (by show n + 12 - (i + 1) < n + 12 - i; omega) (by repeat (first | exact FSub.nil | refine FSub.cons rfl ?_ | refine FSub.conse rfl (by congr 1; omega) ?_)) (by repeat (first | exact LSub.nil | refine LSub.cons (by repeat (first | exact Rem.here | apply Rem.there)) ?_))
  · repeat' (first | (refine gJ ?_; first | refine js rfl rfl rfl rfl ?_ | refine jar rfl rfl rfl rfl rfl rfl rfl (by omega) ?_ | (refine gF ?_; first | refine j_store rfl rfl rfl rfl rfl rfl rfl rfl (by (repeat constructor)) (by rfl) ?_) | (refine j_qe rfl rfl rfl ?_; first | refine ⟨_, q_index_nat rfl rfl rfl rfl rfl (by omega), ?_⟩ | refine ⟨_, q_index_slice rfl rfl rfl rfl rfl (by omega), ?_⟩ | refine ⟨_, q_index_arr rfl rfl rfl rfl rfl (by omega), ?_⟩ | refine ⟨_, q_index_arr_ext rfl rfl rfl rfl rfl (by omega), ?_⟩ | refine ⟨_, q_len_slice rfl rfl rfl rfl, ?_⟩ | refine ⟨_, q_addu8 rfl rfl rfl (by omega), ?_⟩)) | (refine gSC ?_; first | refine sc_mv rfl ?_ | refine sc_q rfl ?_ | refine sc_region ?_) | (refine gSQ ?_; first | refine sq_go rfl ?_ | refine sq_mv rfl ?_ | refine sq_ende (by first | exact .inl rfl | exact .inr rfl) rfl rfl ⟨_, (RVs.nil), ?_⟩) | refine j_nil ?_ | ((refine sc_cond rfl ?_ ?_) <;> intro hc <;> (first | exact absurd hc (by decide) | ((try simp only [engHC] at hc) <;> first | (exfalso; omega) | exact absurd trivial hc | skip))))
    intro w' hS
    exact ⟨xs, trivial, rfl, hs.back (hup xs) (hS.sub (by repeat (first | exact LSub.nil | refine LSub.cons (by repeat (first | exact Rem.here | apply Rem.there)) ?_))) trivial⟩
end Go.Proofs.Ytmcmmmaffdenjaa
