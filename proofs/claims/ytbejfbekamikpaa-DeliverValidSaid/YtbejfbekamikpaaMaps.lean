/-
  In one text: Lrf, Krf, Lru, Maps.
-/
import Derived.Test.YtbejfbekamikpaaKtn
import Derived.Test.YtbejfbekamikpaaKsr
import Derived.Test.YtbejfbekamikpaaLrg
import Derived.Test.YtbejfbekamikpaaLpt
import Derived.Test.YtbejfbekamikpaaEngCoreB
import Derived.Test.YtbejfbekamikpaaLty
import Derived.Test.YtbejfbekamikpaaSta
/-
  letterbagkit: a file lent.
-/
namespace Go.Proofs.Ytbejfbekamikpaa
open Go.RowKit Eng
set_option linter.unusedVariables false
set_option linter.unusedSimpArgs false
set_option maxHeartbeats 8000000
attribute [local irreducible] SC SQ J Qt Calls Iterates LSub FSub
structure Rfx where
  tA : Option Addr
  tc : Nat
  T : List Tn
  sA : Option Addr
  sc : Nat
  S : List Sr
  rA : Option Addr
  rc : Nat
  R : List Rg
  pA : Option Addr
  pc : Nat
  P : List Pt
abbrev rfC (x : Rfx) : List Value := [.slice x.tA x.T.length x.tc, .slice x.sA x.S.length x.sc, .slice x.rA x.R.length x.rc, .slice x.pA x.P.length x.pc]
abbrev rfV (x : Rfx) : Value := .agg (rfC x).toArray
structure okF (w : World) (x : Rfx) : Prop where
  t : RS w 5 tnC x.tA x.T
  s : RS w 6 srC x.sA x.S
  r : RS w 7 rgC x.rA x.R
  p : RS w 8 ptC x.pA x.P
  ts : Sl x.tA x.T.length x.tc
  ss : Sl x.sA x.S.length x.sc
  rs : Sl x.rA x.R.length x.rc
  ps : Sl x.pA x.P.length x.pc
  to : ∀ z ∈ x.T, okT w z
  so : ∀ z ∈ x.S, okS w z
  tb : x.T.length ≤ 140737488351232
  sb : x.S.length ≤ 140737488351232
  rb : x.R.length ≤ 140737488351232
  pb : x.P.length ≤ 140737488351232
theorem okF.st {w0 w : World} {x : Rfx} (h : okF w0 x) {L : List HA} (hs : St w0 Cold L w) : okF w x := ⟨h.t.st hs, h.s.st hs, h.r.st hs, h.p.st hs, h.ts, h.ss, h.rs, h.ps, fun z hz => (h.to z hz).st hs, fun z hz => (h.so z hz).st hs, h.tb, h.sb, h.rb, h.pb⟩
structure Lfx where
  aT : Addr
  kT : Nat
  QT : List LqT
  aS : Addr
  kS : Nat
  QS : List LqS
  aR : Addr
  kR : Nat
  aP : Addr
  kP : Nat
abbrev lfC (x : Rfx) (y : Lfx) : List Value := [.slice (some y.aT) x.T.length y.kT, .slice (some y.aS) x.S.length y.kS, .slice (some y.aR) x.R.length y.kR, .slice (some y.aP) x.P.length y.kP]
abbrev lfV (x : Rfx) (y : Lfx) : Value := .agg (lfC x y).toArray
structure prF (x : Rfx) (y : Lfx) : Prop where
  t : x.T.length + 12 ≤ y.kT ∧ y.QT.reverse.map (·.1) = x.T ∧ ∀ q ∈ y.QT, q.1.cd.length + 12 ≤ q.2.2
  s : x.S.length + 12 ≤ y.kS ∧ y.QS.reverse.map (·.1) = x.S ∧ ∀ q ∈ y.QS, q.1.cd.length + 12 ≤ q.2.2
  r : x.R.length + 12 ≤ y.kR
  p : x.P.length + 12 ≤ y.kP
abbrev lfT (x : Rfx) (y : Lfx) : List HA := .own (.slice (some y.aT) (x.T.length + 12) y.kT) 122 5 (x.T.length + 12) ((y.QT.reverse.map lqT ++ mksT 12).flatMap tnC) :: y.QT.map iqT
abbrev lfS (x : Rfx) (y : Lfx) : List HA := .own (.slice (some y.aS) (x.S.length + 12) y.kS) 126 6 (x.S.length + 12) ((y.QS.reverse.map lqS ++ mksS 12).flatMap srC) :: y.QS.map iqS
abbrev lfR (x : Rfx) (y : Lfx) : List HA := [.own (.slice (some y.aR) (x.R.length + 12) y.kR) 130 7 (x.R.length + 12) ((x.R ++ mksR 1 12).flatMap rgC)]
abbrev lfP (x : Rfx) (y : Lfx) : List HA := [.own (.slice (some y.aP) (x.P.length + 12) y.kP) 39 8 (x.P.length + 12) ((x.P ++ mksP 1 12).flatMap ptC)]
def lfL (x : Rfx) (y : Lfx) : List HA := lfT x y ++ (lfS x y ++ (lfR x y ++ lfP x y))
theorem plain_T : ∀ Q : List LqT, plainHA (Q.map iqT)
  | [] => trivial
  | _ :: Q => plain_T Q
theorem plain_S : ∀ Q : List LqS, plainHA (Q.map iqS)
  | [] => trivial
  | _ :: Q => plain_S Q
theorem plain_app : ∀ {L M : List HA}, plainHA L → plainHA M → plainHA (L ++ M)
  | [], _, _, h => h
  | x :: L, M, h1, h2 => by
    cases x with
    | abs S p => exact ⟨h1.1, plain_app h1.2 h2⟩
    | _ => exact plain_app (L := L) h1 h2
theorem plain_F (x : Rfx) (y : Lfx) : plainHA (lfL x y) := plain_app (L := lfT x y) (plain_T y.QT) (plain_app (L := lfS x y) (plain_S y.QS) (plain_app (L := lfR x y) trivial trivial))
set_option maxHeartbeats 16000000 in
theorem lentF_c (x : Rfx) (w : World) (hok : okF w x) (hl : x.T.length ≤ 3000 ∧ x.S.length ≤ 3000 ∧ x.R.length ≤ 3000 ∧ x.P.length ≤ 3000) :
    Calls Try.prog 23 #[rfV x] w fun e w' => ∃ y : Lfx, prF x y ∧ e = .returned (lfV x y) ∧ St w Cold (lfL x y) w' := by
  obtain ⟨h1, h2, h3, h4⟩ := hl
  refine eng_start (n := 20) (args := [rfV x]) tab tab_ok fns fns_ok [.cell 2 30] Try.func23 rfl rfl rfl rfl ?_
  repeat' (first | (refine gJ ?_; first | refine js rfl rfl rfl rfl ?_ | (refine gload rfl rfl ?_; refine j_qe rfl rfl rfl ?_; first | refine ⟨_, q_load_own rfl rfl rfl rfl (by (repeat constructor)) (by first | rfl | assumption), ?_⟩ | refine ⟨_, q_loadA_own rfl rfl rfl rfl (by (repeat constructor)) (by rfl), ?_⟩ | refine ⟨_, q_loadA_ext rfl rfl rfl rfl ⟨by assumption, (by first | exact id | assumption)⟩ (by rfl), ?_⟩ | refine ⟨_, q_load_ext rfl rfl rfl rfl ⟨by assumption, (by first | exact id | assumption)⟩ (by first | rfl | assumption), ?_⟩ | refine ⟨_, q_load_extb rfl rfl rfl rfl ⟨by assumption, (by first | exact id | assumption)⟩ (by rfl), ?_⟩ | refine ⟨_, q_loadA_extb rfl rfl rfl rfl ⟨by assumption, (by first | exact id | assumption)⟩ (by rfl), ?_⟩ | refine ⟨_, q_load_ext0 rfl rfl rfl rfl ⟨by assumption, (by first | exact id | assumption)⟩ (by rfl), ?_⟩) | refine jfield rfl rfl rfl rfl rfl rfl rfl rfl ?_ | (refine gcall rfl rfl ?_; refine gF ?_; refine j_callN (f := 44) rfl rfl rfl rfl rfl rfl rfl (fun z : Addr × Nat × List LqT => .slice (some z.1) x.T.length z.2.1) (fun z => x.T.length + 12 ≤ z.2.1 ∧ z.2.2.reverse.map (·.1) = x.T ∧ ∀ q ∈ z.2.2, q.1.cd.length + 12 ≤ q.2.2) (fun z => .own (.slice (some z.1) (x.T.length + 12) z.2.1) 122 5 (x.T.length + 12) ((z.2.2.reverse.map lqT ++ mksT 12).flatMap tnC) :: z.2.2.map iqT) (fun w' hs => lentT_c x.tA x.tc x.T w' h1 (hok.st hs).t (hok.st hs).to) (fun z => plain_T z.2.2) ?_; rintro ⟨aT, kT, QT⟩ hT; dsimp only; refine j_perm List.perm_append_comm ?_) | (refine gcall rfl rfl ?_; refine gF ?_; refine j_callN (f := 45) rfl rfl rfl rfl rfl rfl rfl (fun z : Addr × Nat × List LqS => .slice (some z.1) x.S.length z.2.1) (fun z => x.S.length + 12 ≤ z.2.1 ∧ z.2.2.reverse.map (·.1) = x.S ∧ ∀ q ∈ z.2.2, q.1.cd.length + 12 ≤ q.2.2) (fun z => .own (.slice (some z.1) (x.S.length + 12) z.2.1) 126 6 (x.S.length + 12) ((z.2.2.reverse.map lqS ++ mksS 12).flatMap srC) :: z.2.2.map iqS) (fun w' hs => lentS_c x.sA x.sc x.S w' h2 (hok.st hs).s (hok.st hs).so) (fun z => plain_S z.2.2) ?_; rintro ⟨aS, kS, QS⟩ hS; dsimp only; refine j_perm List.perm_append_comm ?_) | (refine gcall rfl rfl ?_; refine gF ?_; refine j_callN (f := 46) rfl rfl rfl rfl rfl rfl rfl (fun z : Addr × Nat => .slice (some z.1) x.R.length z.2) (fun z => x.R.length + 12 ≤ z.2) (fun z => [.own (.slice (some z.1) (x.R.length + 12) z.2) 130 7 (x.R.length + 12) ((x.R ++ mksR 1 12).flatMap rgC)]) (fun w' hs => lentR_c x.rA x.rc x.R w' h3 hok.rs (hok.st hs).r) (fun _ => trivial) ?_; rintro ⟨aR, kR⟩ hR; dsimp only; refine j_perm List.perm_append_comm ?_) | (refine gcall rfl rfl ?_; refine gF ?_; refine j_callN (f := 47) rfl rfl rfl rfl rfl rfl rfl (fun z : Addr × Nat => .slice (some z.1) x.P.length z.2) (fun z => x.P.length + 12 ≤ z.2) (fun z => [.own (.slice (some z.1) (x.P.length + 12) z.2) 39 8 (x.P.length + 12) ((x.P ++ mksP 1 12).flatMap ptC)]) (fun w' hs => lentP_c x.pA x.pc x.P w' h4 hok.ps (hok.st hs).p) (fun _ => trivial) ?_; rintro ⟨aP, kP⟩ hP; dsimp only; refine j_perm List.perm_append_comm ?_) | (refine gF ?_; first | refine j_store rfl rfl rfl rfl rfl rfl rfl rfl (by (repeat constructor)) (by rfl) ?_ | (refine j_alloc rfl rfl rfl rfl rfl ?_; intro b) | (refine j_box rfl rfl rfl rfl rfl ?_; intro b)) | (refine j_qe rfl rfl rfl ?_; first | refine ⟨_, q_field_ext rfl rfl rfl rfl rfl, ?_⟩)) | (refine gSC ?_; first | refine sc_mv rfl ?_ | refine sc_q rfl ?_ | refine sc_region ?_) | (refine gSQ ?_; first | refine sq_go rfl ?_ | refine sq_mv rfl ?_ | refine sq_ende (by first | exact .inl rfl | exact .inr rfl) rfl rfl ⟨_, (RVs.cons (by first | exact RV.cell rfl rfl rfl (by (repeat constructor)) (by rfl) | exact RV.cellA rfl rfl rfl (by (repeat constructor)) (by rfl)) (RVs.nil)), ?_⟩) | refine j_nil ?_ | ((refine sc_cond rfl ?_ ?_) <;> intro hc <;> (first | exact absurd hc (by decide) | ((try simp only [engHC] at hc) <;> first | (exfalso; omega) | exact absurd trivial hc | skip))))
  intro w' hW
  obtain ⟨y, hy⟩ : ∃ y : Lfx, y = ⟨aT, kT, QT, aS, kS, QS, aR, kR, aP, kP⟩ := ⟨_, rfl⟩
  refine ⟨⟨aT, kT, QT, aS, kS, QS, aR, kR, aP, kP⟩, ⟨hT, hS, hR, hP⟩, rfl, hW.sub ?_⟩
  rw [← hy]
  refine LSub.skip (LSub.skip ?_)
  have e : ((([] ++ lfT x y) ++ lfS x y) ++ lfR x y) ++ lfP x y = lfL x y := by
    unfold lfL
    rw [List.nil_append, List.append_assoc, List.append_assoc]
  rw [← e, hy]
  exact LSub.refl
end Go.Proofs.Ytbejfbekamikpaa

/-
  letterbagkit: a file that was lent: the same, and kept.
-/
namespace Go.Proofs.Ytbejfbekamikpaa
open Go.RowKit Eng
set_option linter.unusedVariables false
set_option linter.unusedSimpArgs false
set_option maxHeartbeats 8000000
attribute [local irreducible] SC SQ J Qt Calls Iterates LSub FSub
theorem LSub.of_mem : ∀ {L : List HA} {x : HA}, x ∈ L → LSub [x] L
  | y :: L, x, h => by
    rcases List.mem_cons.1 h with e | h
    · subst e
      exact LSub.cons Rem.here LSub.nil
    · exact LSub.skip (LSub.of_mem h)
structure gvF (w : World) (x : Rfx) (y : Lfx) : Prop where
  pr : prF x y
  ok : okF w x
  t : RS w 5 tnC (some y.aT) (y.QT.reverse.map lqT ++ mksT 12)
  s : RS w 6 srC (some y.aS) (y.QS.reverse.map lqS ++ mksS 12)
  r : RS w 7 rgC (some y.aR) (x.R ++ mksR 1 12)
  p : RS w 8 ptC (some y.aP) (x.P ++ mksP 1 12)
  qt : ∀ q ∈ y.QT.reverse, pqT w q
  qs : ∀ q ∈ y.QS.reverse, pqS w q
theorem gvF.st {w0 w : World} {x : Rfx} {y : Lfx} (h : gvF w0 x y) {L : List HA} (hs : St w0 Cold L w) : gvF w x y :=
  ⟨h.pr, h.ok.st hs, h.t.st hs, h.s.st hs, h.r.st hs, h.p.st hs, fun q hq => (h.qt q hq).st hs, fun q hq => (h.qs q hq).st hs⟩
theorem gv_of {w0 w1 : World} {x : Rfx} {y : Lfx} {L : List HA} (hp : prF x y) (hok : okF w0 x) (hS : St w0 Cold L w1) (hsub : LSub (lfL x y) L) : gvF w1 x y := by
  have h1 := hS.sub hsub
  have ho := hok.st h1
  have hT : ∀ z, z ∈ lfT x y → St w0 Cold [z] w1 := fun z hz => h1.sub (LSub.of_mem (List.mem_append.2 (.inl hz)))
  have hS2 : ∀ z, z ∈ lfS x y → St w0 Cold [z] w1 := fun z hz => h1.sub (LSub.of_mem (List.mem_append.2 (.inr (List.mem_append.2 (.inl hz)))))
  have hR : ∀ z, z ∈ lfR x y → St w0 Cold [z] w1 := fun z hz => h1.sub (LSub.of_mem (List.mem_append.2 (.inr (List.mem_append.2 (.inr (List.mem_append.2 (.inl hz)))))))
  have hP : ∀ z, z ∈ lfP x y → St w0 Cold [z] w1 := fun z hz => h1.sub (LSub.of_mem (List.mem_append.2 (.inr (List.mem_append.2 (.inr (List.mem_append.2 (.inr hz)))))))
  have lT := congrArg List.length hp.t.2.1
  have lS := congrArg List.length hp.s.2.1
  rw [List.length_map] at lT lS
  refine ⟨hp, ho, ?_, ?_, ?_, ?_, fun q hq => ?_, fun q hq => ?_⟩
  · exact rs_own (f := tnC) (l := y.QT.reverse.map lqT ++ mksT 12) (fun _ => rfl) (hT _ List.mem_cons_self) (by (repeat constructor)) (by rw [List.length_append, List.length_map, mksT_len]; omega) rfl
  · exact rs_own (f := srC) (l := y.QS.reverse.map lqS ++ mksS 12) (fun _ => rfl) (hS2 _ List.mem_cons_self) (by (repeat constructor)) (by rw [List.length_append, List.length_map, mksS_len]; omega) rfl
  · exact rs_own (f := rgC) (l := x.R ++ mksR 1 12) (fun _ => rfl) (hR _ List.mem_cons_self) (by (repeat constructor)) (by rw [List.length_append, mksR_len]) rfl
  · exact rs_own (f := ptC) (l := x.P ++ mksP 1 12) (fun _ => rfl) (hP _ List.mem_cons_self) (by (repeat constructor)) (by rw [List.length_append, mksP_len]) rfl
  · have hq2 : q.1 ∈ x.T := by rw [← hp.t.2.1]; exact List.mem_map.2 ⟨q, hq, rfl⟩
    have h3 := ho.to _ hq2
    have h4 := h3.len
    exact ⟨by omega, hp.t.2.2 q (List.mem_reverse.1 hq), rs_own (f := strC) (l := q.1.cd ++ mksX 12) (fun _ => rfl) (hT (iqT q) (List.mem_cons_of_mem _ (List.mem_map.2 ⟨q, List.mem_reverse.1 hq, rfl⟩))) (by (repeat constructor)) (by rw [List.length_append, mksX_len]) rfl, h3.rs⟩
  · have hq2 : q.1 ∈ x.S := by rw [← hp.s.2.1]; exact List.mem_map.2 ⟨q, hq, rfl⟩
    have h3 := ho.so _ hq2
    have h4 := h3.len
    exact ⟨by omega, hp.s.2.2 q (List.mem_reverse.1 hq), rs_own (f := strC) (l := q.1.cd ++ mksX 12) (fun _ => rfl) (hS2 (iqS q) (List.mem_cons_of_mem _ (List.mem_map.2 ⟨q, List.mem_reverse.1 hq, rfl⟩))) (by (repeat constructor)) (by rw [List.length_append, mksX_len]) rfl, h3.rs⟩
section
variable {w : World} {x : Rfx} {y : Lfx} (h : gvF w x y) (hl : x.T.length ≤ 3000 ∧ x.S.length ≤ 3000 ∧ x.R.length ≤ 3000 ∧ x.P.length ≤ 3000)
include h hl
theorem sT_c : Calls Try.prog 80 #[.slice (some y.aT) x.T.length y.kT, .slice x.tA x.T.length x.tc] w fun e w' => e = .returned (.bool true) ∧ Below w.heap.size w w' := by
  have l1 := congrArg List.length h.pr.t.2.1
  rw [List.length_map] at l1
  have h1 := h.t.take (y.QT.reverse.map lqT).length
  rw [List.take_left] at h1
  exact sameT_c (some y.aT) y.kT x.tA x.tc y.QT.reverse x.T.length w l1 hl.1 h1 (by rw [h.pr.t.2.1]; exact h.ok.t) h.qt
theorem kT_c : Calls Try.prog 53 #[.slice (some y.aT) x.T.length y.kT, .slice x.tA x.T.length x.tc] w fun e w' => e = .returned (.bool true) ∧ Below w.heap.size w w' := by
  have l1 := congrArg List.length h.pr.t.2.1
  rw [List.length_map] at l1
  exact keptT_c y.aT y.kT x.tA x.tc y.QT.reverse x.T.length w l1 hl.1 h.pr.t.1 h.t (by rw [h.pr.t.2.1]; exact h.ok.t) h.qt
theorem sS_c : Calls Try.prog 81 #[.slice (some y.aS) x.S.length y.kS, .slice x.sA x.S.length x.sc] w fun e w' => e = .returned (.bool true) ∧ Below w.heap.size w w' := by
  have l1 := congrArg List.length h.pr.s.2.1
  rw [List.length_map] at l1
  have h1 := h.s.take (y.QS.reverse.map lqS).length
  rw [List.take_left] at h1
  exact sameS_c (some y.aS) y.kS x.sA x.sc y.QS.reverse x.S.length w l1 hl.2.1 h1 (by rw [h.pr.s.2.1]; exact h.ok.s) h.qs
theorem kS_c : Calls Try.prog 54 #[.slice (some y.aS) x.S.length y.kS, .slice x.sA x.S.length x.sc] w fun e w' => e = .returned (.bool true) ∧ Below w.heap.size w w' := by
  have l1 := congrArg List.length h.pr.s.2.1
  rw [List.length_map] at l1
  exact keptS_c y.aS y.kS x.sA x.sc y.QS.reverse x.S.length w l1 hl.2.1 h.pr.s.1 h.s (by rw [h.pr.s.2.1]; exact h.ok.s) h.qs
theorem sR_c : Calls Try.prog 82 #[.slice (some y.aR) x.R.length y.kR, .slice x.rA x.R.length x.rc] w fun e w' => e = .returned (.bool true) ∧ Below w.heap.size w w' := by
  have h1 := h.r.take x.R.length
  rw [List.take_left] at h1
  exact sameR_c (some y.aR) y.kR x.rA x.rc x.R x.R.length w rfl (by omega) h1 h.ok.r
theorem kR_c : Calls Try.prog 55 #[.slice (some y.aR) x.R.length y.kR, .slice x.rA x.R.length x.rc] w fun e w' => e = .returned (.bool true) ∧ Below w.heap.size w w' :=
  keptR_c y.aR y.kR x.rA x.rc x.R w hl.2.2.1 h.pr.r h.r h.ok.r
theorem sP_c : Calls Try.prog 83 #[.slice (some y.aP) x.P.length y.kP, .slice x.pA x.P.length x.pc] w fun e w' => e = .returned (.bool true) ∧ Below w.heap.size w w' := by
  have h1 := h.p.take x.P.length
  rw [List.take_left] at h1
  exact sameP_c (some y.aP) y.kP x.pA x.pc x.P x.P.length w rfl (by omega) h1 h.ok.p
theorem kP_c : Calls Try.prog 56 #[.slice (some y.aP) x.P.length y.kP, .slice x.pA x.P.length x.pc] w fun e w' => e = .returned (.bool true) ∧ Below w.heap.size w w' :=
  keptP_c y.aP y.kP x.pA x.pc x.P w hl.2.2.2 h.pr.p h.p h.ok.p
set_option maxRecDepth 4000 in
theorem sameF_c : Calls Try.prog 52 #[lfV x y, rfV x] w fun e w' => e = .returned (.bool true) ∧ Below w.heap.size w w' := by
  refine eng_start (n := 31) (args := [lfV x y, rfV x]) tab tab_ok fns fns_ok [.tmp 4] Try.func52 rfl rfl rfl rfl ?_
  repeat' (first | (refine gJ ?_; first | refine js rfl rfl rfl rfl ?_ | (refine gload rfl rfl ?_; refine j_qe rfl rfl rfl ?_; first | refine ⟨_, q_load_own rfl rfl rfl rfl (by (repeat constructor)) (by first | rfl | assumption), ?_⟩ | refine ⟨_, q_loadA_own rfl rfl rfl rfl (by (repeat constructor)) (by rfl), ?_⟩ | refine ⟨_, q_loadA_ext rfl rfl rfl rfl ⟨by assumption, (by first | exact id | assumption)⟩ (by rfl), ?_⟩ | refine ⟨_, q_load_ext rfl rfl rfl rfl ⟨by assumption, (by first | exact id | assumption)⟩ (by first | rfl | assumption), ?_⟩ | refine ⟨_, q_load_extb rfl rfl rfl rfl ⟨by assumption, (by first | exact id | assumption)⟩ (by rfl), ?_⟩ | refine ⟨_, q_loadA_extb rfl rfl rfl rfl ⟨by assumption, (by first | exact id | assumption)⟩ (by rfl), ?_⟩ | refine ⟨_, q_load_ext0 rfl rfl rfl rfl ⟨by assumption, (by first | exact id | assumption)⟩ (by rfl), ?_⟩) | refine jfield rfl rfl rfl rfl rfl rfl rfl rfl ?_ | (refine gcall rfl rfl ?_; first | (refine j_qc (f := 80) rfl rfl rfl rfl rfl rfl rfl ?_; refine ⟨_, (fun w' hs => sT_c (h.st hs) hl), ?_⟩) | (refine j_qc (f := 81) rfl rfl rfl rfl rfl rfl rfl ?_; refine ⟨_, (fun w' hs => sS_c (h.st hs) hl), ?_⟩) | (refine j_qc (f := 82) rfl rfl rfl rfl rfl rfl rfl ?_; refine ⟨_, (fun w' hs => sR_c (h.st hs) hl), ?_⟩) | (refine j_qc (f := 83) rfl rfl rfl rfl rfl rfl rfl ?_; refine ⟨_, (fun w' hs => sP_c (h.st hs) hl), ?_⟩)) | (refine gF ?_; first | (refine j_box rfl rfl rfl rfl rfl ?_; intro b)) | (refine j_qe rfl rfl rfl ?_; first | refine ⟨_, q_field_ext rfl rfl rfl rfl rfl, ?_⟩) | refine j_guard_undef rfl rfl rfl rfl rfl ?_) | (refine gSC ?_; first | refine sc_mv rfl ?_ | refine sc_q rfl ?_ | refine sc_region ?_) | (refine gSQ ?_; first | refine sq_go rfl ?_ | refine sq_mv rfl ?_ | refine sq_ende (by first | exact .inl rfl | exact .inr rfl) rfl rfl ⟨_, (RVs.cons (RV.tmp rfl) (RVs.nil)), ?_⟩) | refine j_nil ?_ | ((first | refine j_guard rfl rfl rfl rfl rfl ?_ ?_ | refine sc_cond rfl ?_ ?_) <;> intro hc <;> (first | exact absurd hc (by decide) | ((try simp only [engHC] at hc) <;> first | (exfalso; omega) | exact absurd trivial hc | skip))))
  all_goals first
    | (exfalso; omega)
    | (intro w' hS; refine ⟨?_, hS.below⟩; simp only [pack])
set_option maxRecDepth 4000 in
theorem keptF_c : Calls Try.prog 27 #[lfV x y, rfV x] w fun e w' => e = .returned (.bool true) ∧ Below w.heap.size w w' := by
  refine eng_start (n := 36) (args := [lfV x y, rfV x]) tab tab_ok fns fns_ok [.tmp 4] Try.func27 rfl rfl rfl rfl ?_
  repeat' (first | (refine gJ ?_; first | refine js rfl rfl rfl rfl ?_ | (refine gload rfl rfl ?_; refine j_qe rfl rfl rfl ?_; first | refine ⟨_, q_load_own rfl rfl rfl rfl (by (repeat constructor)) (by first | rfl | assumption), ?_⟩ | refine ⟨_, q_loadA_own rfl rfl rfl rfl (by (repeat constructor)) (by rfl), ?_⟩ | refine ⟨_, q_loadA_ext rfl rfl rfl rfl ⟨by assumption, (by first | exact id | assumption)⟩ (by rfl), ?_⟩ | refine ⟨_, q_load_ext rfl rfl rfl rfl ⟨by assumption, (by first | exact id | assumption)⟩ (by first | rfl | assumption), ?_⟩ | refine ⟨_, q_load_extb rfl rfl rfl rfl ⟨by assumption, (by first | exact id | assumption)⟩ (by rfl), ?_⟩ | refine ⟨_, q_loadA_extb rfl rfl rfl rfl ⟨by assumption, (by first | exact id | assumption)⟩ (by rfl), ?_⟩ | refine ⟨_, q_load_ext0 rfl rfl rfl rfl ⟨by assumption, (by first | exact id | assumption)⟩ (by rfl), ?_⟩) | refine jfield rfl rfl rfl rfl rfl rfl rfl rfl ?_ | (refine gcall rfl rfl ?_; first | (refine j_qc (f := 52) rfl rfl rfl rfl rfl rfl rfl ?_; refine ⟨_, (fun w' hs => sameF_c (h.st hs) hl), ?_⟩) | (refine j_qc (f := 53) rfl rfl rfl rfl rfl rfl rfl ?_; refine ⟨_, (fun w' hs => kT_c (h.st hs) hl), ?_⟩) | (refine j_qc (f := 54) rfl rfl rfl rfl rfl rfl rfl ?_; refine ⟨_, (fun w' hs => kS_c (h.st hs) hl), ?_⟩) | (refine j_qc (f := 55) rfl rfl rfl rfl rfl rfl rfl ?_; refine ⟨_, (fun w' hs => kR_c (h.st hs) hl), ?_⟩) | (refine j_qc (f := 56) rfl rfl rfl rfl rfl rfl rfl ?_; refine ⟨_, (fun w' hs => kP_c (h.st hs) hl), ?_⟩)) | (refine gF ?_; first | (refine j_box rfl rfl rfl rfl rfl ?_; intro b)) | (refine j_qe rfl rfl rfl ?_; first | refine ⟨_, q_field_ext rfl rfl rfl rfl rfl, ?_⟩) | refine j_guard_undef rfl rfl rfl rfl rfl ?_) | (refine gSC ?_; first | refine sc_mv rfl ?_ | refine sc_q rfl ?_ | refine sc_region ?_) | (refine gSQ ?_; first | refine sq_go rfl ?_ | refine sq_mv rfl ?_ | refine sq_ende (by first | exact .inl rfl | exact .inr rfl) rfl rfl ⟨_, (RVs.cons (RV.tmp rfl) (RVs.nil)), ?_⟩) | refine j_nil ?_ | ((first | refine j_guard rfl rfl rfl rfl rfl ?_ ?_ | refine sc_cond rfl ?_ ?_) <;> intro hc <;> (first | exact absurd hc (by decide) | ((try simp only [engHC] at hc) <;> first | (exfalso; omega) | exact absurd trivial hc | skip))))
  all_goals first
    | (exfalso; omega)
    | (intro w' hS; refine ⟨?_, hS.below⟩; simp only [pack])
end
theorem fewR_c (x : Rfx) (w : World) (h : okF w x) : Calls Try.prog 22 #[rfV x, .slice none 0 0, .slice none 0 0] w fun e w' => e = .returned (.bool (decide (x.T.length + x.S.length + x.R.length + x.P.length ≤ 300))) ∧ Below w.heap.size w w' := by
  have h1 := h.tb
  have h2 := h.sb
  have h3 := h.rb
  have h4 := h.pb
  by_cases hf : x.T.length + x.S.length + x.R.length + x.P.length ≤ 300
  · rw [decide_eq_true hf]
    refine eng_start (n := 33) (args := [rfV x, .slice none 0 0, .slice none 0 0]) tab tab_ok fns fns_ok [.tmp 6] Try.func22 rfl rfl rfl rfl ?_
    repeat' (first | (refine gJ ?_; first | refine js rfl rfl rfl rfl ?_ | (refine gload rfl rfl ?_; refine j_qe rfl rfl rfl ?_; first | refine ⟨_, q_load_own rfl rfl rfl rfl (by (repeat constructor)) (by first | rfl | assumption), ?_⟩ | refine ⟨_, q_loadA_own rfl rfl rfl rfl (by (repeat constructor)) (by rfl), ?_⟩ | refine ⟨_, q_loadA_ext rfl rfl rfl rfl ⟨by assumption, (by first | exact id | assumption)⟩ (by rfl), ?_⟩ | refine ⟨_, q_load_ext rfl rfl rfl rfl ⟨by assumption, (by first | exact id | assumption)⟩ (by first | rfl | assumption), ?_⟩ | refine ⟨_, q_load_extb rfl rfl rfl rfl ⟨by assumption, (by first | exact id | assumption)⟩ (by rfl), ?_⟩ | refine ⟨_, q_loadA_extb rfl rfl rfl rfl ⟨by assumption, (by first | exact id | assumption)⟩ (by rfl), ?_⟩ | refine ⟨_, q_load_ext0 rfl rfl rfl rfl ⟨by assumption, (by first | exact id | assumption)⟩ (by rfl), ?_⟩) | refine jfield rfl rfl rfl rfl rfl rfl rfl rfl ?_ | refine jar rfl rfl rfl rfl rfl rfl rfl (by omega) ?_ | (refine gF ?_; first | (refine j_box rfl rfl rfl rfl rfl ?_; intro b)) | (refine j_qe rfl rfl rfl ?_; first | refine ⟨_, q_len_slice rfl rfl rfl rfl, ?_⟩ | refine ⟨_, q_field_ext rfl rfl rfl rfl rfl, ?_⟩ | refine ⟨_, q_addu8 rfl rfl rfl (by omega), ?_⟩) | refine j_guard_undef rfl rfl rfl rfl rfl ?_) | (refine gSC ?_; first | refine sc_mv rfl ?_ | refine sc_q rfl ?_ | refine sc_region ?_) | (refine gSQ ?_; first | refine sq_go rfl ?_ | refine sq_mv rfl ?_ | refine sq_ende (by first | exact .inl rfl | exact .inr rfl) rfl rfl ⟨_, (RVs.cons (RV.tmp rfl) (RVs.nil)), ?_⟩) | refine j_nil ?_ | ((first | refine j_guard rfl rfl rfl rfl rfl ?_ ?_ | refine sc_cond rfl ?_ ?_) <;> intro hc <;> (first | exact absurd hc (by decide) | ((try simp only [engHC] at hc) <;> first | (exfalso; omega) | exact absurd trivial hc | skip))))
    all_goals first
      | (exfalso; omega)
      | ((intro w' hS; refine ⟨?_, hS.below⟩; simp only [pack]); done)
      | ((intro w' hS; refine ⟨?_, hS.below⟩; simp only [pack]); rfl)
  · rw [decide_eq_false hf]
    refine eng_start (n := 33) (args := [rfV x, .slice none 0 0, .slice none 0 0]) tab tab_ok fns fns_ok [.tmp 6] Try.func22 rfl rfl rfl rfl ?_
    repeat' (first | (refine gJ ?_; first | refine js rfl rfl rfl rfl ?_ | (refine gload rfl rfl ?_; refine j_qe rfl rfl rfl ?_; first | refine ⟨_, q_load_own rfl rfl rfl rfl (by (repeat constructor)) (by first | rfl | assumption), ?_⟩ | refine ⟨_, q_loadA_own rfl rfl rfl rfl (by (repeat constructor)) (by rfl), ?_⟩ | refine ⟨_, q_loadA_ext rfl rfl rfl rfl ⟨by assumption, (by first | exact id | assumption)⟩ (by rfl), ?_⟩ | refine ⟨_, q_load_ext rfl rfl rfl rfl ⟨by assumption, (by first | exact id | assumption)⟩ (by first | rfl | assumption), ?_⟩ | refine ⟨_, q_load_extb rfl rfl rfl rfl ⟨by assumption, (by first | exact id | assumption)⟩ (by rfl), ?_⟩ | refine ⟨_, q_loadA_extb rfl rfl rfl rfl ⟨by assumption, (by first | exact id | assumption)⟩ (by rfl), ?_⟩ | refine ⟨_, q_load_ext0 rfl rfl rfl rfl ⟨by assumption, (by first | exact id | assumption)⟩ (by rfl), ?_⟩) | refine jfield rfl rfl rfl rfl rfl rfl rfl rfl ?_ | refine jar rfl rfl rfl rfl rfl rfl rfl (by omega) ?_ | (refine gF ?_; first | (refine j_box rfl rfl rfl rfl rfl ?_; intro b)) | (refine j_qe rfl rfl rfl ?_; first | refine ⟨_, q_len_slice rfl rfl rfl rfl, ?_⟩ | refine ⟨_, q_field_ext rfl rfl rfl rfl rfl, ?_⟩ | refine ⟨_, q_addu8 rfl rfl rfl (by omega), ?_⟩) | refine j_guard_undef rfl rfl rfl rfl rfl ?_) | (refine gSC ?_; first | refine sc_mv rfl ?_ | refine sc_q rfl ?_ | refine sc_region ?_) | (refine gSQ ?_; first | refine sq_go rfl ?_ | refine sq_mv rfl ?_ | refine sq_ende (by first | exact .inl rfl | exact .inr rfl) rfl rfl ⟨_, (RVs.cons (RV.tmp rfl) (RVs.nil)), ?_⟩) | refine j_nil ?_ | ((first | refine j_guard rfl rfl rfl rfl rfl ?_ ?_ | refine sc_cond rfl ?_ ?_) <;> intro hc <;> (first | exact absurd hc (by decide) | ((try simp only [engHC] at hc) <;> first | (exfalso; omega) | exact absurd trivial hc | skip))))
    all_goals first
      | (exfalso; omega)
      | ((intro w' hS; refine ⟨?_, hS.below⟩; simp only [pack]); done)
      | ((intro w' hS; refine ⟨?_, hS.below⟩; simp only [pack]); rfl)
end Go.Proofs.Ytbejfbekamikpaa

/-
  letterbagkit: memory lent of a type, and whether it was kept (Lent.., Kept.. of type 37).
-/
namespace Go.Proofs.Ytbejfbekamikpaa
open Go.RowKit Eng
set_option linter.unusedVariables false
set_option linter.unusedSimpArgs false
set_option maxHeartbeats 8000000
attribute [local irreducible] SC SQ J Qt Calls Iterates LSub FSub
abbrev ruV (x : Ru) : Value := .agg (ruC x).toArray
theorem eqm37 : Try.prog.eqGuardType Try.prog.depth 37 = false := by kernel_rfl
theorem eq37r (a : Ru) (w : World) : (Op.equalIn 10000 37 (ruV a) (ruV a)).run Try.prog w = .ok true w := by
  have u3 := Try.underlying3
  have a3 := Try.isAgg3
  have z3 := Try.sizeOf3
  have u5 := Try.underlying5
  have a5 := Try.isAgg5
  have z5 := Try.sizeOf5
  rw [run_equalIn_agg w 9999 37 _ _ (by kernel_rfl) (by kernel_rfl)]
  simp only [Program.fieldsOf, Try.underlying37]
  go_simp
def mkU (k i : Int) : Ru := ⟨1000003 * (k + 7) + i, 0, 0, 0, 0⟩
def mksU (k : Int) : Nat → List Ru
  | 0 => []
  | n + 1 => mksU k n ++ [mkU k n]
theorem mksU_len (k : Int) : ∀ n, (mksU k n).length = n
  | 0 => rfl
  | n + 1 => by simp [mksU, mksU_len k n]
theorem mksU_get (k : Int) : ∀ n i, i < n → (mksU k n)[i]? = some (mkU k i)
  | 0, i, h => by omega
  | n + 1, i, h => by
    simp only [mksU]
    by_cases hi : i < n
    · rw [List.getElem?_append_left (by rw [mksU_len]; exact hi), mksU_get k n i hi]
    · have : i = n := by omega
      subst this
      rw [List.getElem?_append_right (by rw [mksU_len]; omega), mksU_len, Nat.sub_self]
      rfl
theorem markU_c (k i : Int) (w : World) (hk : 0 ≤ k ∧ k ≤ 2) (hi : 0 ≤ i ∧ i ≤ 100000) : Calls Try.prog 48 #[.int .i64 k, .int .i64 i] w fun e w' => e = .returned (ruV (mkU k i)) ∧ Below w.heap.size w w' := by
  refine eng_start (n := 9) (args := [.int .i64 k, .int .i64 i]) tab tab_ok fns fns_ok [.cell 4 37] Try.func48 rfl rfl rfl rfl ?_
  repeat' (first | (refine gJ ?_; first | refine js rfl rfl rfl rfl ?_ | (refine gcall rfl rfl ?_; first | (refine j_qc (f := 77) rfl rfl rfl rfl rfl rfl rfl ?_; refine ⟨_, (fun w' _ => mark_c k i w' hk hi), ?_⟩)) | (refine gF ?_; first | refine j_store rfl rfl rfl rfl rfl rfl rfl rfl (by (repeat constructor)) (by rfl) ?_ | (refine j_alloc rfl rfl rfl rfl rfl ?_; intro b)) | (refine j_qe rfl rfl rfl ?_; first | refine ⟨_, q_build_struct rfl rfl rfl rfl rfl, ?_⟩ | refine ⟨_, q_build_arr rfl rfl rfl rfl rfl, ?_⟩)) | (refine gSC ?_; first | refine sc_mv rfl ?_ | refine sc_q rfl ?_ | refine sc_region ?_) | (refine gSQ ?_; first | refine sq_go rfl ?_ | refine sq_mv rfl ?_ | refine sq_ende (by first | exact .inl rfl | exact .inr rfl) rfl rfl ⟨_, (RVs.cons (by first | exact RV.cell rfl rfl rfl (by (repeat constructor)) (by rfl) | exact RV.cellA rfl rfl rfl (by (repeat constructor)) (by rfl)) (RVs.nil)), ?_⟩) | refine j_nil ?_ | ((refine sc_cond rfl ?_ ?_) <;> intro hc <;> (first | exact absurd hc (by decide) | ((try simp only [engHC] at hc) <;> first | (exfalso; omega) | exact absurd trivial hc | skip))))
  (intro w' hS; refine ⟨?_, hS.below⟩; simp only [pack])
  rfl
theorem lentU_c (A : Option Addr) (c : Nat) (l : List Ru) (w : World) (hl : l.length ≤ 3000) (hs : Sl A l.length c) (h : RS w 5 ruC A l) :
    Calls Try.prog 24 #[.slice A l.length c] w fun e w' => ∃ x : Addr × Nat, l.length + 12 ≤ x.2 ∧ e = .returned (.slice (some x.1) l.length x.2) ∧ St w Cold [.own (.slice (some x.1) (l.length + 12) x.2) 37 5 (l.length + 12) ((l ++ mksU 1 12).flatMap ruC)] w' := by
  have hre := fun w' (h : RS w' 5 ruC A l) => reads_ext (f := ruC) (sz := 5) (fun _ => rfl) (fun _ => rfl) h (fun e => ⟨List.length_eq_zero_iff.1 (hs.nil e).1, (hs.nil e).2⟩)
  obtain ⟨n, hn⟩ : ∃ n, l.length = n := ⟨_, rfl⟩
  rw [hn] at hre hl ⊢
  refine eng_start (n := 25) (args := [.slice A n c]) tab tab_ok fns fns_ok [.tmp 2] Try.func24 rfl rfl rfl rfl ?_
  repeat' (first | (refine gJ ?_; first | refine js rfl rfl rfl rfl ?_ | refine jar rfl rfl rfl rfl rfl rfl rfl (by omega) ?_ | (refine gF ?_; refine j_make0 rfl rfl rfl rfl rfl rfl rfl rfl rfl ⟨by omega, by omega⟩ ?_; intro b1) | (refine gF ?_; refine j_appendS (cs := l.flatMap ruC) (n := 0) (A := A) (k := n) (c := c) rfl rfl rfl rfl rfl rfl rfl rfl rfl rfl rfl (fun w' hs => hre w' (h.st hs)) (by (repeat constructor)) (by omega) (fun _ => by (repeat constructor)) ?_; intro v9) | (refine gF ?_; first | (refine j_buildSlice rfl rfl rfl rfl rfl rfl rfl rfl rfl rfl rfl rfl ?_; intro b) | (refine j_append rfl rfl rfl rfl rfl rfl rfl rfl rfl rfl rfl (by (repeat constructor)) (by (repeat constructor)) (by rfl) (by rfl) (by omega) (fun _ => by (repeat constructor)) ?_; intro v)) | (refine j_qe rfl rfl rfl ?_; first | refine ⟨_, q_len_slice rfl rfl rfl rfl, ?_⟩ | refine ⟨_, q_addu8 rfl rfl rfl (by omega), ?_⟩)) | (refine gSC ?_; first | refine sc_mv rfl ?_ | refine sc_q rfl ?_ | refine sc_region ?_) | (refine gSQ ?_; first | refine sq_go rfl ?_ | refine sq_mv rfl ?_ | refine sq_ende (by first | exact .inl rfl | exact .inr rfl) rfl rfl ⟨_, (RVs.cons (RV.tmp rfl) (RVs.nil)), ?_⟩) | refine j_nil ?_ | ((refine sc_cond rfl ?_ ?_) <;> intro hc <;> (first | exact absurd hc (by decide) | ((try simp only [engHC] at hc) <;> first | (exfalso; omega) | exact absurd trivial hc | skip))))
  refine sc_loop (ι := Nat × Value) (fun i => i.1 ≤ 12) (fun i => 12 - i.1) (fun i => [(0, .slice A n c), (3, i.2), (4, .int .i64 i.1)]) (fun i => [.own i.2 37 5 (n + i.1) ((l ++ mksU 1 i.1).flatMap ruC)]) (0, v9) (Nat.zero_le _) (by repeat (first | exact FSub.nil | refine FSub.cons rfl ?_ | refine FSub.conse rfl (by congr 1; omega) ?_)) ?_ ?_
  · dsimp only
    rw [show mksU 1 0 = [] from rfl, List.append_nil, Nat.add_zero]
    have e1 : HA.own v9 37 5 (0 + n) ([] ++ l.flatMap ruC) = .own v9 37 5 n (l.flatMap ruC) := by rw [Nat.zero_add, List.nil_append]
    rw [← e1]
    exact (by repeat (first | exact LSub.nil | refine LSub.cons (by repeat (first | exact Rem.here | apply Rem.there)) ?_))
  rintro ⟨i, v0⟩ hi
  dsimp only at hi ⊢
  by_cases hlt : i < 12
  · have e1 : (l ++ mksU 1 i).flatMap ruC ++ ruC (mkU 1 i) = (l ++ mksU 1 (i + 1)).flatMap ruC := by
      simp only [mksU]
      rw [← List.append_assoc, List.flatMap_append (xs := l ++ mksU 1 i)]
      simp
    repeat' (first | (refine gJ ?_; first | refine js rfl rfl rfl rfl ?_ | refine jar rfl rfl rfl rfl rfl rfl rfl (by omega) ?_ | (refine gcall rfl rfl ?_; first | (refine j_qc (f := 48) rfl rfl rfl rfl rfl rfl rfl ?_; refine ⟨_, (fun w' _ => markU_c 1 i w' (by omega) (by omega)), ?_⟩)) | (refine gF ?_; refine j_append (xs := (l ++ mksU 1 i).flatMap ruC) rfl rfl rfl rfl rfl rfl rfl rfl rfl rfl rfl (by (repeat constructor)) (by (repeat constructor)) (by rfl) (by rfl) (by omega) (fun _ => by (repeat constructor)) ?_; intro v) | (refine gF ?_; first | (refine j_buildSlice rfl rfl rfl rfl rfl rfl rfl rfl rfl rfl rfl rfl ?_; intro b) | (refine j_append rfl rfl rfl rfl rfl rfl rfl rfl rfl rfl rfl (by (repeat constructor)) (by (repeat constructor)) (by rfl) (by rfl) (by omega) (fun _ => by (repeat constructor)) ?_; intro v)) | (refine j_qe rfl rfl rfl ?_; first | refine ⟨_, q_len_slice rfl rfl rfl rfl, ?_⟩ | refine ⟨_, q_addu8 rfl rfl rfl (by omega), ?_⟩)) | (refine gSC ?_; first | refine sc_mv rfl ?_ | refine sc_q rfl ?_ | refine sc_region ?_) | (refine gSQ ?_; first | refine sq_go rfl ?_ | refine sq_mv rfl ?_ | refine sq_ende (by first | exact .inl rfl | exact .inr rfl) rfl rfl ⟨_, (RVs.cons (RV.tmp rfl) (RVs.nil)), ?_⟩) | refine j_nil ?_ | ((refine sc_cond rfl ?_ ?_) <;> intro hc <;> (first | exact absurd hc (by decide) | ((try simp only [engHC] at hc) <;> first | (exfalso; omega) | exact absurd trivial hc | skip))))
    refine sq_loop (i + 1, v) (by show i + 1 ≤ 12; omega) (by show 12 - (i + 1) < 12 - i; omega) (by repeat (first | exact FSub.nil | refine FSub.cons rfl ?_ | refine FSub.conse rfl (by congr 1; omega) ?_)) ?_
    dsimp only
    rw [← e1]
    exact (by repeat (first | exact LSub.refl | refine LSub.cons (by repeat (first | exact Rem.here | apply Rem.there)) ?_ | apply LSub.skip))
  · obtain rfl : i = 12 := by omega
    refine sc_ownq (v := v0) (by (repeat constructor)) (by omega) ?_
    rintro ad c2 rfl hc2
    repeat' (first | (refine gJ ?_; first | refine js rfl rfl rfl rfl ?_ | refine jar rfl rfl rfl rfl rfl rfl rfl (by omega) ?_ | (refine j_qe rfl rfl rfl ?_; refine ⟨_, q_sliceHi n rfl rfl rfl rfl rfl (by omega), ?_⟩) | (refine gF ?_; first | (refine j_buildSlice rfl rfl rfl rfl rfl rfl rfl rfl rfl rfl rfl rfl ?_; intro b) | (refine j_append rfl rfl rfl rfl rfl rfl rfl rfl rfl rfl rfl (by (repeat constructor)) (by (repeat constructor)) (by rfl) (by rfl) (by omega) (fun _ => by (repeat constructor)) ?_; intro v)) | (refine j_qe rfl rfl rfl ?_; first | refine ⟨_, q_len_slice rfl rfl rfl rfl, ?_⟩ | refine ⟨_, q_addu8 rfl rfl rfl (by omega), ?_⟩)) | (refine gSC ?_; first | refine sc_mv rfl ?_ | refine sc_q rfl ?_ | refine sc_region ?_) | (refine gSQ ?_; first | refine sq_go rfl ?_ | refine sq_mv rfl ?_ | refine sq_ende (by first | exact .inl rfl | exact .inr rfl) rfl rfl ⟨_, (RVs.cons (RV.tmp rfl) (RVs.nil)), ?_⟩) | refine j_nil ?_ | ((refine sc_cond rfl ?_ ?_) <;> intro hc <;> (first | exact absurd hc (by decide) | ((try simp only [engHC] at hc) <;> first | (exfalso; omega) | exact absurd trivial hc | skip))))
    intro w' hS
    exact ⟨(ad, c2), hc2, rfl, hS⟩
theorem keptU_c (ad : Addr) (c2 : Nat) (A : Option Addr) (c : Nat) (l : List Ru) (w : World) (hl : l.length ≤ 3000) (hc : l.length + 12 ≤ c2) (hL : RS w 5 ruC (some ad) (l ++ mksU 1 12)) (h : RS w 5 ruC A l) :
    Calls Try.prog 28 #[.slice (some ad) l.length c2, .slice A l.length c] w fun e w' => e = .returned (.bool true) ∧ Below w.heap.size w w' := by
  have hg : ∀ k, k < l.length → (l ++ mksU 1 12)[k]? = l[k]? := fun k hk => List.getElem?_append_left hk
  have hm : ∀ k, l.length ≤ k → k < l.length + 12 → (l ++ mksU 1 12)[k]? = some (mkU 1 ((k - l.length : Nat) : Int)) := fun k h1 h2 => by rw [List.getElem?_append_right h1]; exact mksU_get _ _ _ (by omega)
  obtain ⟨n, hn⟩ : ∃ n, l.length = n := ⟨_, rfl⟩
  rw [hn] at hl hc hg hm ⊢
  refine eng_start (n := 58) (args := [.slice (some ad) n c2, .slice A n c]) tab tab_ok fns fns_ok [.tmp 4] Try.func28 rfl rfl rfl rfl ?_
  repeat' (first | (refine gJ ?_; first | refine js rfl rfl rfl rfl ?_ | (refine gload rfl rfl ?_; refine j_qe rfl rfl rfl ?_; first | refine ⟨_, q_load_own rfl rfl rfl rfl (by (repeat constructor)) (by first | rfl | assumption), ?_⟩ | refine ⟨_, q_loadA_own rfl rfl rfl rfl (by (repeat constructor)) (by rfl), ?_⟩ | refine ⟨_, q_loadA_ext rfl rfl rfl rfl ⟨by assumption, (by first | exact id | assumption)⟩ (by rfl), ?_⟩ | refine ⟨_, q_load_ext rfl rfl rfl rfl ⟨by assumption, (by first | exact id | assumption)⟩ (by first | rfl | assumption), ?_⟩ | refine ⟨_, q_load_extb rfl rfl rfl rfl ⟨by assumption, (by first | exact id | assumption)⟩ (by rfl), ?_⟩ | refine ⟨_, q_loadA_extb rfl rfl rfl rfl ⟨by assumption, (by first | exact id | assumption)⟩ (by rfl), ?_⟩ | refine ⟨_, q_load_ext0 rfl rfl rfl rfl ⟨by assumption, (by first | exact id | assumption)⟩ (by rfl), ?_⟩) | refine jar rfl rfl rfl rfl rfl rfl rfl (by omega) ?_ | (refine j_qe rfl rfl rfl ?_; refine ⟨_, q_sliceHi (n + 12) rfl rfl rfl rfl rfl (by omega), ?_⟩) | (refine j_qe rfl rfl rfl ?_; first | refine ⟨_, q_index_nat rfl rfl rfl rfl rfl (by omega), ?_⟩ | refine ⟨_, q_index_slice rfl rfl rfl rfl rfl (by omega), ?_⟩ | refine ⟨_, q_index_arr rfl rfl rfl rfl rfl (by omega), ?_⟩ | refine ⟨_, q_index_arr_ext rfl rfl rfl rfl rfl (by omega), ?_⟩ | refine ⟨_, q_len_slice rfl rfl rfl rfl, ?_⟩ | refine ⟨_, q_addu8 rfl rfl rfl (by omega), ?_⟩) | refine j_guard_undef rfl rfl rfl rfl rfl ?_) | (refine gSC ?_; first | refine sc_mv rfl ?_ | refine sc_q rfl ?_ | refine sc_region ?_ | refine sc_draw rfl mixed (by kernel_rfl) ?_) | (refine gSQ ?_; first | refine sq_go rfl ?_ | refine sq_mv rfl ?_ | refine sq_ende (by first | exact .inl rfl | exact .inr rfl) rfl rfl ⟨_, (RVs.cons (RV.tmp rfl) (RVs.nil)), ?_⟩) | refine j_nil ?_ | ((first | refine j_guard rfl rfl rfl rfl rfl ?_ ?_ | refine sc_cond rfl ?_ ?_) <;> intro hc <;> (first | exact absurd hc (by decide) | ((try simp only [engHC] at hc) <;> first | (exfalso; omega) | exact absurd trivial hc | skip))))
  refine sc_loop (ι := Nat) (fun k => k ≤ n + 12) (fun k => n + 12 - k) (fun k => [(1, .slice A n c), (5, .slice (some ad) (n + 12) c2), (6, .int .i64 k)]) (fun _ => []) 0 (Nat.zero_le _) (by repeat (first | exact FSub.nil | refine FSub.cons rfl ?_ | refine FSub.conse rfl (by congr 1; omega) ?_)) (by repeat (first | exact LSub.nil | refine LSub.cons (by repeat (first | exact Rem.here | apply Rem.there)) ?_)) ?_
  intro k hk
  by_cases hlt : k < n
  · obtain ⟨x, hx⟩ : ∃ x, l[k]? = some x := ⟨_, List.getElem?_eq_getElem (by omega)⟩
    obtain ⟨ad1, e1, hX⟩ := hL k x (by rw [hg k hlt]; exact hx)
    obtain rfl : ad = ad1 := by injection e1
    obtain ⟨ad2, rfl, hY⟩ := h k x hx
    repeat' (first | (refine gJ ?_; first | refine js rfl rfl rfl rfl ?_ | (refine gload rfl rfl ?_; refine j_qe rfl rfl rfl ?_; first | refine ⟨_, q_load_own rfl rfl rfl rfl (by (repeat constructor)) (by first | rfl | assumption), ?_⟩ | refine ⟨_, q_loadA_own rfl rfl rfl rfl (by (repeat constructor)) (by rfl), ?_⟩ | refine ⟨_, q_loadA_ext rfl rfl rfl rfl ⟨by assumption, (by first | exact id | assumption)⟩ (by rfl), ?_⟩ | refine ⟨_, q_load_ext rfl rfl rfl rfl ⟨by assumption, (by first | exact id | assumption)⟩ (by first | rfl | assumption), ?_⟩ | refine ⟨_, q_load_extb rfl rfl rfl rfl ⟨by assumption, (by first | exact id | assumption)⟩ (by rfl), ?_⟩ | refine ⟨_, q_loadA_extb rfl rfl rfl rfl ⟨by assumption, (by first | exact id | assumption)⟩ (by rfl), ?_⟩ | refine ⟨_, q_load_ext0 rfl rfl rfl rfl ⟨by assumption, (by first | exact id | assumption)⟩ (by rfl), ?_⟩) | refine jar rfl rfl rfl rfl rfl rfl rfl (by omega) ?_ | (refine j_qe rfl rfl rfl ?_; refine ⟨_, q_eqS rfl eqm37 rfl rfl (eq37r x), ?_⟩) | (refine j_qe rfl rfl rfl ?_; first | refine ⟨_, q_index_nat rfl rfl rfl rfl rfl (by omega), ?_⟩ | refine ⟨_, q_index_slice rfl rfl rfl rfl rfl (by omega), ?_⟩ | refine ⟨_, q_index_arr rfl rfl rfl rfl rfl (by omega), ?_⟩ | refine ⟨_, q_index_arr_ext rfl rfl rfl rfl rfl (by omega), ?_⟩ | refine ⟨_, q_len_slice rfl rfl rfl rfl, ?_⟩ | refine ⟨_, q_addu8 rfl rfl rfl (by omega), ?_⟩) | refine j_guard_undef rfl rfl rfl rfl rfl ?_) | (refine gSC ?_; first | refine sc_mv rfl ?_ | refine sc_q rfl ?_ | refine sc_region ?_ | refine sc_draw rfl mixed (by kernel_rfl) ?_) | (refine gSQ ?_; first | refine sq_go rfl ?_ | refine sq_mv rfl ?_ | refine sq_ende (by first | exact .inl rfl | exact .inr rfl) rfl rfl ⟨_, (RVs.cons (RV.tmp rfl) (RVs.nil)), ?_⟩) | refine j_nil ?_ | ((first | refine j_guard rfl rfl rfl rfl rfl ?_ ?_ | refine sc_cond rfl ?_ ?_) <;> intro hc <;> (first | exact absurd hc (by decide) | ((try simp only [engHC] at hc) <;> first | (exfalso; omega) | exact absurd trivial hc | skip))))
    exact sq_loop (k + 1) (by omega) (by omega) (by repeat (first | exact FSub.nil | refine FSub.cons rfl ?_ | refine FSub.conse rfl (by congr 1; omega) ?_)) (by repeat (first | exact LSub.nil | refine LSub.cons (by repeat (first | exact Rem.here | apply Rem.there)) ?_))
  · by_cases hlt2 : k < n + 12
    · obtain ⟨j, rfl⟩ : ∃ j, k = n + j := ⟨k - n, by omega⟩
      have hmk := hm (n + j) (by omega) hlt2
      rw [Nat.add_sub_cancel_left] at hmk
      obtain ⟨ad1, e1, hX⟩ := hL (n + j) _ hmk
      obtain rfl : ad = ad1 := by injection e1
      have hmc := fun w' => markU_c 1 j w' (by omega) (by omega)
      have ej : (((n + j : Nat) : Int) - (n : Int)) = (j : Int) := by omega
      rw [← ej] at hmc
      rw [← ej] at hX
      repeat' (first | (refine gJ ?_; first | refine js rfl rfl rfl rfl ?_ | (refine gload rfl rfl ?_; refine j_qe rfl rfl rfl ?_; first | refine ⟨_, q_load_own rfl rfl rfl rfl (by (repeat constructor)) (by first | rfl | assumption), ?_⟩ | refine ⟨_, q_loadA_own rfl rfl rfl rfl (by (repeat constructor)) (by rfl), ?_⟩ | refine ⟨_, q_loadA_ext rfl rfl rfl rfl ⟨by assumption, (by first | exact id | assumption)⟩ (by rfl), ?_⟩ | refine ⟨_, q_load_ext rfl rfl rfl rfl ⟨by assumption, (by first | exact id | assumption)⟩ (by first | rfl | assumption), ?_⟩ | refine ⟨_, q_load_extb rfl rfl rfl rfl ⟨by assumption, (by first | exact id | assumption)⟩ (by rfl), ?_⟩ | refine ⟨_, q_loadA_extb rfl rfl rfl rfl ⟨by assumption, (by first | exact id | assumption)⟩ (by rfl), ?_⟩ | refine ⟨_, q_load_ext0 rfl rfl rfl rfl ⟨by assumption, (by first | exact id | assumption)⟩ (by rfl), ?_⟩) | refine jar rfl rfl rfl rfl rfl rfl rfl (by omega) ?_ | (refine gcall rfl rfl ?_; first | (refine j_qc (f := 48) rfl rfl rfl rfl rfl rfl rfl ?_; refine ⟨_, (fun w' _ => hmc w'), ?_⟩)) | (refine j_qe rfl rfl rfl ?_; refine ⟨_, q_eqS rfl eqm37 rfl rfl (eq37r (mkU 1 (((n + j : Nat) : Int) - (n : Int)))), ?_⟩) | (refine j_qe rfl rfl rfl ?_; first | refine ⟨_, q_index_nat rfl rfl rfl rfl rfl (by omega), ?_⟩ | refine ⟨_, q_index_slice rfl rfl rfl rfl rfl (by omega), ?_⟩ | refine ⟨_, q_index_arr rfl rfl rfl rfl rfl (by omega), ?_⟩ | refine ⟨_, q_index_arr_ext rfl rfl rfl rfl rfl (by omega), ?_⟩ | refine ⟨_, q_len_slice rfl rfl rfl rfl, ?_⟩ | refine ⟨_, q_addu8 rfl rfl rfl (by omega), ?_⟩) | refine j_guard_undef rfl rfl rfl rfl rfl ?_) | (refine gSC ?_; first | refine sc_mv rfl ?_ | refine sc_q rfl ?_ | refine sc_region ?_ | refine sc_draw rfl mixed (by kernel_rfl) ?_) | (refine gSQ ?_; first | refine sq_go rfl ?_ | refine sq_mv rfl ?_ | refine sq_ende (by first | exact .inl rfl | exact .inr rfl) rfl rfl ⟨_, (RVs.cons (RV.tmp rfl) (RVs.nil)), ?_⟩) | refine j_nil ?_ | ((first | refine j_guard rfl rfl rfl rfl rfl ?_ ?_ | refine sc_cond rfl ?_ ?_) <;> intro hc <;> (first | exact absurd hc (by decide) | ((try simp only [engHC] at hc) <;> first | (exfalso; omega) | exact absurd trivial hc | skip))))
      exact sq_loop (n + j + 1) (by omega) (by omega) (by repeat (first | exact FSub.nil | refine FSub.cons rfl ?_ | refine FSub.conse rfl (by congr 1; omega) ?_)) (by repeat (first | exact LSub.nil | refine LSub.cons (by repeat (first | exact Rem.here | apply Rem.there)) ?_))
    · repeat' (first | (refine gJ ?_; first | refine js rfl rfl rfl rfl ?_ | (refine gload rfl rfl ?_; refine j_qe rfl rfl rfl ?_; first | refine ⟨_, q_load_own rfl rfl rfl rfl (by (repeat constructor)) (by first | rfl | assumption), ?_⟩ | refine ⟨_, q_loadA_own rfl rfl rfl rfl (by (repeat constructor)) (by rfl), ?_⟩ | refine ⟨_, q_loadA_ext rfl rfl rfl rfl ⟨by assumption, (by first | exact id | assumption)⟩ (by rfl), ?_⟩ | refine ⟨_, q_load_ext rfl rfl rfl rfl ⟨by assumption, (by first | exact id | assumption)⟩ (by first | rfl | assumption), ?_⟩ | refine ⟨_, q_load_extb rfl rfl rfl rfl ⟨by assumption, (by first | exact id | assumption)⟩ (by rfl), ?_⟩ | refine ⟨_, q_loadA_extb rfl rfl rfl rfl ⟨by assumption, (by first | exact id | assumption)⟩ (by rfl), ?_⟩ | refine ⟨_, q_load_ext0 rfl rfl rfl rfl ⟨by assumption, (by first | exact id | assumption)⟩ (by rfl), ?_⟩) | refine jar rfl rfl rfl rfl rfl rfl rfl (by omega) ?_ | (refine j_qe rfl rfl rfl ?_; first | refine ⟨_, q_index_nat rfl rfl rfl rfl rfl (by omega), ?_⟩ | refine ⟨_, q_index_slice rfl rfl rfl rfl rfl (by omega), ?_⟩ | refine ⟨_, q_index_arr rfl rfl rfl rfl rfl (by omega), ?_⟩ | refine ⟨_, q_index_arr_ext rfl rfl rfl rfl rfl (by omega), ?_⟩ | refine ⟨_, q_len_slice rfl rfl rfl rfl, ?_⟩ | refine ⟨_, q_addu8 rfl rfl rfl (by omega), ?_⟩) | refine j_guard_undef rfl rfl rfl rfl rfl ?_) | (refine gSC ?_; first | refine sc_mv rfl ?_ | refine sc_q rfl ?_ | refine sc_region ?_ | refine sc_draw rfl mixed (by kernel_rfl) ?_) | (refine gSQ ?_; first | refine sq_go rfl ?_ | refine sq_mv rfl ?_ | refine sq_ende (by first | exact .inl rfl | exact .inr rfl) rfl rfl ⟨_, (RVs.cons (RV.tmp rfl) (RVs.nil)), ?_⟩) | refine j_nil ?_ | ((first | refine j_guard rfl rfl rfl rfl rfl ?_ ?_ | refine sc_cond rfl ?_ ?_) <;> intro hc <;> (first | exact absurd hc (by decide) | ((try simp only [engHC] at hc) <;> first | (exfalso; omega) | exact absurd trivial hc | skip))))
      (intro w' hS; refine ⟨?_, hS.below⟩; simp only [pack])
end Go.Proofs.Ytbejfbekamikpaa

/-
  deliver: the maps of points and of rules.
-/
namespace Go.Proofs.Ytbejfbekamikpaa
open Go.RowKit Eng
set_option linter.unusedVariables false
set_option linter.unusedSimpArgs false
set_option maxHeartbeats 8000000
attribute [local irreducible] SC SQ J Qt Calls Iterates LSub FSub
def lkG {α : Type} : List (Int × α) → Int → Option α
  | [], _ => none
  | (k', v) :: M, k => if k' = k then some v else lkG M k
abbrev valsG {α : Type} (f : α → Value) (M : List (Int × α)) : List (Int × Value) := M.map fun q => (q.1, f q.2)
theorem mlk_vals {α : Type} (f : α → Value) : ∀ (M : List (Int × α)) (k : Int), mlk (valsG f M) k = (lkG M k).map f
  | [], k => rfl
  | (k', v) :: M, k => by
    have ih := mlk_vals f M k
    simp only [valsG, List.map_cons, mlk, lkG] at ih ⊢
    split
    · rfl
    · exact ih
theorem mset_new {α : Type} (f : α → Value) : ∀ (M : List (Int × α)) (k : Int) (v : α), lkG M k = none → mset (valsG f M) k (f v) = valsG f (M ++ [(k, v)])
  | [], k, v, _ => rfl
  | (k', u) :: M, k, v, h => by
    simp only [lkG] at h
    split at h
    · cases h
    · rename_i hk
      have ih := mset_new f M k v h
      simp only [valsG, List.map_cons, List.cons_append, mset, if_neg hk] at ih ⊢
      rw [ih]
def stepP (M : List (Int × Pt)) (p : Pt) : List (Int × Pt) := match lkG M p.id with
  | some _ => M
  | none => M ++ [(p.id, p)]
def firstsF (l : List Pt) : List (Int × Pt) := l.foldl stepP []
abbrev ptV (p : Pt) : Value := .agg (ptC p).toArray
theorem firsts_c (v1 v2 v3 : Value) (A : Option Addr) (c : Nat) (l : List Pt) (w : World) (hl : l.length ≤ 9223372036854775807) (h : RS w 8 ptC A l) (g1 : v1.oneCell' = true) (g2 : v2.oneCell' = true) (g3 : v3.oneCell' = true) :
    Calls Try.prog 37 #[refV v1 v2 v3 A l.length c] w fun e w' => ∃ b : Nat, True ∧ e = .returned (.map (some b)) ∧ St w Cold [haMap b .i64 (valsG ptV (firstsF l))] w' := by
  generalize hn : l.length = n at *
  refine eng_start (n := 31) (args := [refV v1 v2 v3 A n c]) tab tab_ok fns fns_ok [.tmp 2] Try.func37 rfl rfl rfl rfl ?_
  repeat' (first | (refine gJ ?_; first | refine js rfl rfl rfl rfl ?_ | (refine gload rfl rfl ?_; refine j_qe rfl rfl rfl ?_; first | refine ⟨_, q_load_own rfl rfl rfl rfl (by (repeat constructor)) (by first | rfl | assumption), ?_⟩ | refine ⟨_, q_loadA_own rfl rfl rfl rfl (by (repeat constructor)) (by rfl), ?_⟩ | refine ⟨_, q_loadA_ext rfl rfl rfl rfl ⟨by assumption, (by first | exact id | assumption)⟩ (by rfl), ?_⟩ | refine ⟨_, q_load_ext rfl rfl rfl rfl ⟨by assumption, (by first | exact id | assumption)⟩ (by first | rfl | assumption), ?_⟩ | refine ⟨_, q_load_extb rfl rfl rfl rfl ⟨by assumption, (by first | exact id | assumption)⟩ (by rfl), ?_⟩ | refine ⟨_, q_loadA_extb rfl rfl rfl rfl ⟨by assumption, (by first | exact id | assumption)⟩ (by rfl), ?_⟩ | refine ⟨_, q_load_ext0 rfl rfl rfl rfl ⟨by assumption, (by first | exact id | assumption)⟩ (by rfl), ?_⟩) | refine jfield rfl rfl rfl rfl rfl rfl rfl rfl ?_ | refine jar rfl rfl rfl rfl rfl rfl rfl (by omega) ?_ | (refine gF ?_; refine j_makeMap .i64 rfl rfl rfl rfl ?_; intro bm) | (refine gF ?_; first | refine j_store rfl rfl rfl rfl rfl rfl rfl rfl (by (repeat constructor)) (by rfl) ?_ | (refine j_alloc rfl rfl rfl rfl rfl ?_; intro b) | (refine j_box rfl rfl rfl rfl rfl ?_; intro b)) | (refine j_qe rfl rfl rfl ?_; first | refine ⟨_, q_index_nat rfl rfl rfl rfl rfl (by omega), ?_⟩ | refine ⟨_, q_index_slice rfl rfl rfl rfl rfl (by omega), ?_⟩ | refine ⟨_, q_index_arr rfl rfl rfl rfl rfl (by omega), ?_⟩ | refine ⟨_, q_index_arr_ext rfl rfl rfl rfl rfl (by omega), ?_⟩ | refine ⟨_, q_len_slice rfl rfl rfl rfl, ?_⟩ | refine ⟨_, q_field_ext rfl rfl rfl rfl rfl, ?_⟩ | refine ⟨_, q_addu8 rfl rfl rfl (by omega), ?_⟩)) | (refine gSC ?_; first | refine sc_mv rfl ?_ | refine sc_q rfl ?_ | refine sc_region ?_) | (refine gSQ ?_; first | refine sq_go rfl ?_ | refine sq_mv rfl ?_ | refine sq_ende (by first | exact .inl rfl | exact .inr rfl) rfl rfl ⟨_, (RVs.cons (RV.tmp rfl) (RVs.nil)), ?_⟩) | refine j_nil ?_ | ((refine sc_cond rfl ?_ ?_) <;> intro hc <;> (first | exact absurd hc (by decide) | ((try simp only [engHC] at hc) <;> first | (exfalso; omega) | exact absurd trivial hc | skip))))
  refine sc_loop (ι := Nat × List (Int × Pt)) (fun i => i.1 ≤ n ∧ firstsF l = (l.drop i.1).foldl stepP i.2) (fun i => n - i.1) (fun i => [(3, .map (some bm)), (10, .slice A n c), (11, .int .i64 n), (12, .int .i64 i.1)]) (fun i => [haMap bm .i64 (valsG ptV i.2)]) (0, []) ⟨by omega, rfl⟩ (by repeat (first | exact FSub.nil | refine FSub.cons rfl ?_ | refine FSub.conse rfl (by congr 1; omega) ?_)) (by repeat (first | exact LSub.nil | refine LSub.cons (by repeat (first | exact Rem.here | apply Rem.there)) ?_)) ?_
  rintro ⟨k, M⟩ ⟨hk, hr⟩
  dsimp only at hk hr ⊢
  by_cases hlt : k < n
  · obtain ⟨x, hx⟩ : ∃ x, l[k]? = some x := ⟨_, List.getElem?_eq_getElem (by omega)⟩
    obtain ⟨ad, rfl, hX⟩ := h k x hx
    rw [drop_cons hx, List.foldl_cons] at hr
    have hmv := mlk_vals ptV M x.id
    cases hlk : lkG M x.id with
    | some q =>
      rw [hlk] at hmv
      repeat' (first | (refine gJ ?_; first | refine js rfl rfl rfl rfl ?_ | (refine gload rfl rfl ?_; refine j_qe rfl rfl rfl ?_; first | refine ⟨_, q_load_own rfl rfl rfl rfl (by (repeat constructor)) (by first | rfl | assumption), ?_⟩ | refine ⟨_, q_loadA_own rfl rfl rfl rfl (by (repeat constructor)) (by rfl), ?_⟩ | refine ⟨_, q_loadA_ext rfl rfl rfl rfl ⟨by assumption, (by first | exact id | assumption)⟩ (by rfl), ?_⟩ | refine ⟨_, q_load_ext rfl rfl rfl rfl ⟨by assumption, (by first | exact id | assumption)⟩ (by first | rfl | assumption), ?_⟩ | refine ⟨_, q_load_extb rfl rfl rfl rfl ⟨by assumption, (by first | exact id | assumption)⟩ (by rfl), ?_⟩ | refine ⟨_, q_loadA_extb rfl rfl rfl rfl ⟨by assumption, (by first | exact id | assumption)⟩ (by rfl), ?_⟩ | refine ⟨_, q_load_ext0 rfl rfl rfl rfl ⟨by assumption, (by first | exact id | assumption)⟩ (by rfl), ?_⟩) | refine jfield rfl rfl rfl rfl rfl rfl rfl rfl ?_ | refine jar rfl rfl rfl rfl rfl rfl rfl (by omega) ?_ | (refine j_qe rfl rfl rfl ?_; refine ⟨_, q_lookup_ok (v := ptV q) (r := true) rfl rfl rfl rfl rfl rfl rfl rfl (by (repeat constructor)) (by first | (rw [hmv]; done) | (rw [hmv]; rfl)) (by first | (rw [hmv]; done) | (rw [hmv]; rfl)), ?_⟩) | (refine gF ?_; first | refine j_store rfl rfl rfl rfl rfl rfl rfl rfl (by (repeat constructor)) (by rfl) ?_ | (refine j_alloc rfl rfl rfl rfl rfl ?_; intro b) | (refine j_box rfl rfl rfl rfl rfl ?_; intro b)) | (refine j_qe rfl rfl rfl ?_; first | refine ⟨_, q_index_nat rfl rfl rfl rfl rfl (by omega), ?_⟩ | refine ⟨_, q_index_slice rfl rfl rfl rfl rfl (by omega), ?_⟩ | refine ⟨_, q_index_arr rfl rfl rfl rfl rfl (by omega), ?_⟩ | refine ⟨_, q_index_arr_ext rfl rfl rfl rfl rfl (by omega), ?_⟩ | refine ⟨_, q_len_slice rfl rfl rfl rfl, ?_⟩ | refine ⟨_, q_field_ext rfl rfl rfl rfl rfl, ?_⟩ | refine ⟨_, q_addu8 rfl rfl rfl (by omega), ?_⟩)) | (refine gSC ?_; first | refine sc_mv rfl ?_ | refine sc_q rfl ?_ | refine sc_region ?_) | (refine gSQ ?_; first | refine sq_go rfl ?_ | refine sq_mv rfl ?_ | refine sq_ende (by first | exact .inl rfl | exact .inr rfl) rfl rfl ⟨_, (RVs.cons (RV.tmp rfl) (RVs.nil)), ?_⟩) | refine j_nil ?_ | ((refine sc_cond rfl ?_ ?_) <;> intro hc <;> (first | exact absurd hc (by decide) | ((try simp only [engHC] at hc) <;> first | (exfalso; omega) | exact absurd trivial hc | skip))))
      exact sq_loop (k + 1, M) ⟨by show k + 1 ≤ n; omega, by rw [hr]; simp only [stepP, hlk]⟩ (by show n - (k + 1) < n - k; omega) (by repeat (first | exact FSub.nil | refine FSub.cons rfl ?_ | refine FSub.conse rfl (by congr 1; omega) ?_)) (by repeat (first | exact LSub.nil | refine LSub.cons (by repeat (first | exact Rem.here | apply Rem.there)) ?_))
    | none =>
      rw [hlk] at hmv
      have hms := mset_new ptV M x.id x hlk
      repeat' (first | (refine gJ ?_; first | refine js rfl rfl rfl rfl ?_ | (refine gload rfl rfl ?_; refine j_qe rfl rfl rfl ?_; first | refine ⟨_, q_load_own rfl rfl rfl rfl (by (repeat constructor)) (by first | rfl | assumption), ?_⟩ | refine ⟨_, q_loadA_own rfl rfl rfl rfl (by (repeat constructor)) (by rfl), ?_⟩ | refine ⟨_, q_loadA_ext rfl rfl rfl rfl ⟨by assumption, (by first | exact id | assumption)⟩ (by rfl), ?_⟩ | refine ⟨_, q_load_ext rfl rfl rfl rfl ⟨by assumption, (by first | exact id | assumption)⟩ (by first | rfl | assumption), ?_⟩ | refine ⟨_, q_load_extb rfl rfl rfl rfl ⟨by assumption, (by first | exact id | assumption)⟩ (by rfl), ?_⟩ | refine ⟨_, q_loadA_extb rfl rfl rfl rfl ⟨by assumption, (by first | exact id | assumption)⟩ (by rfl), ?_⟩ | refine ⟨_, q_load_ext0 rfl rfl rfl rfl ⟨by assumption, (by first | exact id | assumption)⟩ (by rfl), ?_⟩) | refine jfield rfl rfl rfl rfl rfl rfl rfl rfl ?_ | refine jar rfl rfl rfl rfl rfl rfl rfl (by omega) ?_ | (refine j_qe rfl rfl rfl ?_; refine ⟨_, q_lookup_ok (v := ptV ptZ) (r := false) rfl rfl rfl rfl rfl rfl rfl rfl (by (repeat constructor)) (by first | (rw [hmv]; done) | (rw [hmv]; rfl)) (by first | (rw [hmv]; done) | (rw [hmv]; rfl)), ?_⟩) | (refine gF ?_; refine j_mapUpdate (v := ptV x) rfl rfl rfl rfl rfl rfl rfl rfl rfl rfl (by (repeat constructor)) ?_; rw [hms]) | (refine gF ?_; first | refine j_store rfl rfl rfl rfl rfl rfl rfl rfl (by (repeat constructor)) (by rfl) ?_ | (refine j_alloc rfl rfl rfl rfl rfl ?_; intro b) | (refine j_box rfl rfl rfl rfl rfl ?_; intro b)) | (refine j_qe rfl rfl rfl ?_; first | refine ⟨_, q_index_nat rfl rfl rfl rfl rfl (by omega), ?_⟩ | refine ⟨_, q_index_slice rfl rfl rfl rfl rfl (by omega), ?_⟩ | refine ⟨_, q_index_arr rfl rfl rfl rfl rfl (by omega), ?_⟩ | refine ⟨_, q_index_arr_ext rfl rfl rfl rfl rfl (by omega), ?_⟩ | refine ⟨_, q_len_slice rfl rfl rfl rfl, ?_⟩ | refine ⟨_, q_field_ext rfl rfl rfl rfl rfl, ?_⟩ | refine ⟨_, q_addu8 rfl rfl rfl (by omega), ?_⟩)) | (refine gSC ?_; first | refine sc_mv rfl ?_ | refine sc_q rfl ?_ | refine sc_region ?_) | (refine gSQ ?_; first | refine sq_go rfl ?_ | refine sq_mv rfl ?_ | refine sq_ende (by first | exact .inl rfl | exact .inr rfl) rfl rfl ⟨_, (RVs.cons (RV.tmp rfl) (RVs.nil)), ?_⟩) | refine j_nil ?_ | ((refine sc_cond rfl ?_ ?_) <;> intro hc <;> (first | exact absurd hc (by decide) | ((try simp only [engHC] at hc) <;> first | (exfalso; omega) | exact absurd trivial hc | skip))))
      exact sq_loop (k + 1, M ++ [(x.id, x)]) ⟨by show k + 1 ≤ n; omega, by rw [hr]; simp only [stepP, hlk]⟩ (by show n - (k + 1) < n - k; omega) (by repeat (first | exact FSub.nil | refine FSub.cons rfl ?_ | refine FSub.conse rfl (by congr 1; omega) ?_)) (by repeat (first | exact LSub.nil | refine LSub.cons (by repeat (first | exact Rem.here | apply Rem.there)) ?_))
  · repeat' (first | (refine gJ ?_; first | refine js rfl rfl rfl rfl ?_ | (refine gload rfl rfl ?_; refine j_qe rfl rfl rfl ?_; first | refine ⟨_, q_load_own rfl rfl rfl rfl (by (repeat constructor)) (by first | rfl | assumption), ?_⟩ | refine ⟨_, q_loadA_own rfl rfl rfl rfl (by (repeat constructor)) (by rfl), ?_⟩ | refine ⟨_, q_loadA_ext rfl rfl rfl rfl ⟨by assumption, (by first | exact id | assumption)⟩ (by rfl), ?_⟩ | refine ⟨_, q_load_ext rfl rfl rfl rfl ⟨by assumption, (by first | exact id | assumption)⟩ (by first | rfl | assumption), ?_⟩ | refine ⟨_, q_load_extb rfl rfl rfl rfl ⟨by assumption, (by first | exact id | assumption)⟩ (by rfl), ?_⟩ | refine ⟨_, q_loadA_extb rfl rfl rfl rfl ⟨by assumption, (by first | exact id | assumption)⟩ (by rfl), ?_⟩ | refine ⟨_, q_load_ext0 rfl rfl rfl rfl ⟨by assumption, (by first | exact id | assumption)⟩ (by rfl), ?_⟩) | refine jfield rfl rfl rfl rfl rfl rfl rfl rfl ?_ | refine jar rfl rfl rfl rfl rfl rfl rfl (by omega) ?_ | (refine gF ?_; first | refine j_store rfl rfl rfl rfl rfl rfl rfl rfl (by (repeat constructor)) (by rfl) ?_ | (refine j_alloc rfl rfl rfl rfl rfl ?_; intro b) | (refine j_box rfl rfl rfl rfl rfl ?_; intro b)) | (refine j_qe rfl rfl rfl ?_; first | refine ⟨_, q_index_nat rfl rfl rfl rfl rfl (by omega), ?_⟩ | refine ⟨_, q_index_slice rfl rfl rfl rfl rfl (by omega), ?_⟩ | refine ⟨_, q_index_arr rfl rfl rfl rfl rfl (by omega), ?_⟩ | refine ⟨_, q_index_arr_ext rfl rfl rfl rfl rfl (by omega), ?_⟩ | refine ⟨_, q_len_slice rfl rfl rfl rfl, ?_⟩ | refine ⟨_, q_field_ext rfl rfl rfl rfl rfl, ?_⟩ | refine ⟨_, q_addu8 rfl rfl rfl (by omega), ?_⟩)) | (refine gSC ?_; first | refine sc_mv rfl ?_ | refine sc_q rfl ?_ | refine sc_region ?_) | (refine gSQ ?_; first | refine sq_go rfl ?_ | refine sq_mv rfl ?_ | refine sq_ende (by first | exact .inl rfl | exact .inr rfl) rfl rfl ⟨_, (RVs.cons (RV.tmp rfl) (RVs.nil)), ?_⟩) | refine j_nil ?_ | ((refine sc_cond rfl ?_ ?_) <;> intro hc <;> (first | exact absurd hc (by decide) | ((try simp only [engHC] at hc) <;> first | (exfalso; omega) | exact absurd trivial hc | skip))))
    rw [List.drop_of_length_le (by omega)] at hr
    intro w' hS
    refine ⟨bm, trivial, rfl, ?_⟩
    rw [hr]
    exact hS.sub (by repeat (first | exact LSub.nil | refine LSub.cons (by repeat (first | exact Rem.here | apply Rem.there)) ?_))
end Go.Proofs.Ytbejfbekamikpaa
