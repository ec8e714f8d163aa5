/-
  nat: DivMod, Pow; stats: times, plus, over, power.
-/
import Derived.Test.YtmakokbpadmfbaaGreatNat5
namespace Go.Proofs.YtmakokbpadmfbaaGreat
open Go.RowKit Eng
set_option linter.unusedVariables false
set_option linter.unusedSimpArgs false
set_option maxHeartbeats 8000000
attribute [local irreducible] SC SQ J Qt Calls Iterates LSub FSub
theorem own_slc {w0 w : World} {hot : Nat → Prop} {L : List HA} {v : Value} {e sz n : Nat} {xs : List Value} (hs : St w0 hot L w) (hin : InL L (.own v e sz n xs)) : ∃ A c, v = .slice A n c := by
  have hA := hs.at hin
  rcases hA.2.2 with ⟨hv, h0⟩ | ⟨g, cap, cur, hv, _⟩
  · exact ⟨none, 0, by rw [hv, h0]⟩
  · exact ⟨_, _, hv⟩
section
variable {C : Cx} {F : Fr} {L : List HA} {o : Oper} {K : List KI} {ops : Array Oper} {rest : List Oper}
section
attribute [local semireducible] SC J
theorem j_own_pos {l : List Oper} {v : Value} {e sz n : Nat} {xs : List Value} (hin : InL L (.own v e sz n xs)) (hn : 0 < n) (h : ∀ ad c, v = .slice (some ad) n c → n ≤ c → J C ops false l K F L) : J C ops false l K F L := fun a w hf hs => by
  have hA := hs.at hin
  rcases hA.2.2 with ⟨_, h0⟩ | ⟨g, cap, cur, hv, _, _, hnc, _⟩
  · omega
  · exact h _ _ hv hnc a w hf hs
end
theorem j_nat {al : List Operand} {fo : Operand} {ats : Array TypeId} {f d k : Nat} {caps vs : List Value} (ho : o.op = .call { callee := .value fo, args := al.toArray, argTypes := ats })
    (hg : o.guard = none) (hd : o.dst = some d) (hn : Nat.blt d C.n = true) (hfo : ev F fo = some (.func (.func f) #[] caps.toArray)) (ha : evs F al = some vs) (hc : has C.fns f = true)
    (hcall : ∀ w, St C.w0 C.hot L w → Calls C.P f (vs ++ caps).toArray w (fun e w' => ∃ v : Value, True ∧ e = .returned v ∧ St w Cold [haN v k] w'))
    (h : ∀ A c, J C ops false rest K ((d, .slice A (limbs k).length c) :: F) (haN (.slice A (limbs k).length c) k :: L)) : J C ops false (o :: rest) K F L :=
  j_callN ho hg hd hn hfo ha hc (fun x : Option Addr × Nat => .slice x.1 (limbs k).length x.2) (fun _ => True) (fun x => [haN (.slice x.1 (limbs k).length x.2) k])
    (fun w hs => (hcall w hs).mono fun e w' ⟨v, _, he, hs'⟩ => by
      obtain ⟨A, c, hv⟩ := own_slc hs' InL.here
      subst hv
      exact ⟨(A, c), trivial, he, hs'⟩) (fun _ => trivial) (fun x _ => h x.1 x.2)
theorem j_nat2 {al : List Operand} {fo : Operand} {ats : Array TypeId} {f d k : Nat} {caps vs : List Value} (ho : o.op = .call { callee := .value fo, args := al.toArray, argTypes := ats })
    (hg : o.guard = none) (hd : o.dst = some d) (hn : Nat.blt d C.n = true) (hfo : ev F fo = some (.func (.func f) #[] caps.toArray)) (ha : evs F al = some vs) (hc : has C.fns f = true)
    (hcall : ∀ w, St C.w0 C.hot L w → Calls C.P f (vs ++ caps).toArray w (fun e w' => ∃ v : Value, True ∧ e = .returned (.tuple #[v, .int .i64 0]) ∧ St w Cold [haN v k] w'))
    (h : ∀ A c, J C ops false rest K ((d, .tuple #[.slice A (limbs k).length c, .int .i64 0]) :: F) (haN (.slice A (limbs k).length c) k :: L)) : J C ops false (o :: rest) K F L :=
  j_callN ho hg hd hn hfo ha hc (fun x : Option Addr × Nat => .tuple #[.slice x.1 (limbs k).length x.2, .int .i64 0]) (fun _ => True) (fun x => [haN (.slice x.1 (limbs k).length x.2) k])
    (fun w hs => (hcall w hs).mono fun e w' ⟨v, _, he, hs'⟩ => by
      obtain ⟨A, c, hv⟩ := own_slc hs' InL.here
      subst hv
      exact ⟨(A, c), trivial, he, hs'⟩) (fun _ => trivial) (fun x _ => h x.1 x.2)
theorem q_shrn {x y : Operand} {t u : TypeId} {k k' : IntKind} {n j s : Nat} (ho : o.op = .binOp .shr t x y u) (hx : ev F x = some (.int k (n : Int))) (hy : ev F y = some (.int k' (j : Int))) (hr : j ≤ k.bits) (hs : s = n / 2 ^ j) : Qv C o F L (.int k (s : Int)) := by
  have h := q_shr (C := C) (F := F) (L := L) ho hx hy ⟨by omega, by simpa using hr⟩
  rw [hs]
  simpa using h
end
set_option exponentiation.threshold 600
/-- All numbers here are small. -/
def cap : Nat := 10000 ^ 502
theorem cap_len {k : Nat} (h : k ≤ cap) : (limbs k).length ≤ 256 :=
  Nat.le_trans (limbs_le h) (limbs_len (by unfold cap; decide +kernel))
theorem small_len {a : Nat} (h : a < 4294967296) : (limbs a).length ≤ 1 := limbs_len (by omega)
theorem pow_cap {a n : Nat} (ha : a ≤ 10000) (hn : n ≤ 502) : a ^ n ≤ cap :=
  Nat.le_trans (Nat.pow_le_pow_left ha n) (Nat.pow_le_pow_right (by omega) hn)
theorem divided_n {w0 w : World} {hot : Nat → Prop} {L : List HA} {L' : List Int → List HA} {ad : Addr} {n c : Nat} {p : List Int} {a b : Nat} (hs : St w0 hot L w) (hin : InL L (.own (.slice (some ad) n c) 92 1 n (p.flatMap u32C)))
    (hup : ∀ T, Upd L (.own (.slice (some ad) n c) 92 1 n (p.flatMap u32C)) (.own (.slice (some ad) n c) 92 1 n (T.flatMap u32C)) (L' T)) (hn : p.length = n) (hn2 : n ≤ 1000000) (hp : inB p) (hv : vl p = a) (h0 : 0 < b) (hy : b < 4294967296) :
    Calls Tryz.prog 144 #[.slice (some ad) n c, .int .u32 b] w fun e w' => ∃ x : List Int, (x.length = n ∧ inB x ∧ vl x = ((a / b : Nat) : Int)) ∧ e = .returned (.int .u32 ((a % b : Nat) : Int)) ∧ St w0 hot (L' x) w' := by
  refine (divided_c hs hin hup hn hn2 hp h0 hy).mono ?_
  rintro e w' ⟨⟨T, r⟩, ⟨h1, h2, h3, h4⟩, he, hS⟩
  dsimp only at h1 h2 h3 h4 he hS
  rw [hv] at h4
  have hb : (0 : Int) < b := by omega
  have e1 : vl T = (a : Int) / b := by
    rw [← h4, Int.add_comm, Int.add_mul_ediv_right _ _ (by omega), Int.ediv_eq_zero_of_lt h3.1 h3.2, Int.zero_add]
  have e2 : r = (a : Int) % b := by
    rw [← h4, Int.add_comm, Int.add_mul_emod_self_right, Int.emod_eq_of_lt h3.1 h3.2]
  refine ⟨T, ⟨h1, h2, ?_⟩, ?_, hS⟩
  · rw [e1]
    push_cast
    rfl
  · rw [he, e2]
    push_cast
    rfl
theorem divmod_c (A : Option Addr) (c a : Nat) (B : Option Addr) (bc b : Nat) (w : World) (hla : (limbs a).length ≤ 1024) (hb0 : 0 < b) (hb : b < 4294967296) (hA : SL w A c (limbs a)) (hB : SL w B bc (limbs b)) :
    Calls Tryz.prog 130 #[.slice A (limbs a).length c, .slice B (limbs b).length bc] w fun e w' => ∃ x : (Option Addr × Nat) × Value, True ∧ e = .returned (.tuple #[.slice x.1.1 (limbs (a / b)).length x.1.2, x.2, .int .i64 0]) ∧ St w Cold [haN (.slice x.1.1 (limbs (a / b)).length x.1.2) (a / b)] w' := by
  have eb := limbs_one hb0 hb
  have h1 := fun w' hA => right_c A c a w' hla hA
  have h2 := fun w' hB => right_c B bc b w' (by rw [eb]; simp) hB
  have h3 := fun w' hA hB => compared_c A c a B bc b w' (by omega) (by rw [eb]; simp) hA hB
  have h4 := fun w' hA => copied_c A c (limbs a) w' (by omega) hA
  have ia := limbs_in a
  have va := limbs_vl a
  have hle := hA.le
  have hlen : b ≤ a → 0 < (limbs a).length := fun h => by
    rcases Nat.eq_zero_or_pos (limbs a).length with h0 | h0
    · have := (limbs_nil a).1 (List.length_eq_zero_iff.1 h0)
      omega
    · exact h0
  rw [eb] at hB h2 h3 ⊢
  simp only [List.length_singleton] at h2 h3 ⊢
  generalize limbs a = l at *
  obtain ⟨n, hn⟩ : ∃ n, l.length = n := ⟨_, rfl⟩
  rw [hn] at hla hle
  simp only [hn] at h1 h3 h4 hlen ⊢
  by_cases hab : a < b
  · have hs : sgn a b = -1 := by unfold sgn; rw [if_pos (by omega)]
    have hd : a / b = 0 := Nat.div_eq_of_lt hab
    rw [hs] at h3
    rw [hd]
    refine eng_start (n := 146) (args := [.slice A n c, .slice B 1 bc]) tab tab_ok fns fns_ok [.tmp 4, .tmp 5, .tmp 6] Tryz.func130 rfl rfl rfl rfl ?_
    repeat' (first | (refine gJ ?_; first | refine js rfl rfl rfl rfl ?_ | (refine gcall rfl rfl ?_; first | (refine j_qc (f := 55) rfl rfl rfl rfl rfl rfl rfl ?_; refine ⟨_, (fun w' hs => h1 w' (hA.st hs)), ?_⟩) | (refine j_qc (f := 55) rfl rfl rfl rfl rfl rfl rfl ?_; refine ⟨_, (fun w' hs => h2 w' (hB.st hs)), ?_⟩) | (refine j_qc (f := 59) rfl rfl rfl rfl rfl rfl rfl ?_; refine ⟨_, (fun w' hs => h3 w' (hA.st hs) (hB.st hs)), ?_⟩)) | (refine gcall rfl rfl ?_; refine gF ?_; refine j_callN (f := 56) rfl rfl rfl rfl rfl rfl rfl (fun v => v) (fun _ => True) (fun v => [.own v 92 1 n (l.flatMap u32C)]) (fun w' hs => h4 w' (hA.st hs)) (fun _ => trivial) ?_; rintro v9 _) | (refine j_qe rfl rfl rfl ?_; refine ⟨_, q_len_slice rfl rfl rfl rfl, ?_⟩)) | (refine gSC ?_; first | refine sc_mv rfl ?_ | refine sc_q rfl ?_ | refine sc_region ?_) | (refine gSQ ?_; first | refine sq_go rfl ?_ | refine sq_mv rfl ?_ | refine sq_ende (by first | exact .inl rfl | exact .inr rfl) rfl rfl ⟨_, (RVs.cons (RV.tmp rfl) (RVs.cons (RV.tmp rfl) (RVs.cons (RV.tmp rfl) (RVs.nil)))), ?_⟩) | refine j_nil ?_ | ((first | refine j_guard rfl rfl rfl rfl rfl ?_ ?_ | refine sc_cond rfl ?_ ?_) <;> intro hc <;> (first | exact absurd hc (by decide) | ((try simp only [engHC] at hc) <;> skip))))
    intro w' hS
    exact ⟨((none, 0), _), trivial, rfl, (hS.own_nil (e := 92) (sz := 1)).sub (by repeat (first | exact LSub.nil | refine LSub.cons (by repeat (first | exact Rem.here | apply Rem.there)) ?_))⟩
  · have hs : sgn a b = 0 ∨ sgn a b = 1 := by unfold sgn; rw [if_neg (by omega)]; split <;> simp
    have hs0 : 0 ≤ sgn a b := by omega
    have hpos := hlen (by omega)
    have hmb : a % b < b := Nat.mod_lt _ hb0
    obtain ⟨ad', rfl, hY⟩ := hB.rs 0 _ rfl
    refine eng_start (n := 146) (args := [.slice A n c, .slice (some ad') 1 bc]) tab tab_ok fns fns_ok [.tmp 4, .tmp 5, .tmp 6] Tryz.func130 rfl rfl rfl rfl ?_
    repeat' (first | (refine gJ ?_; first | refine js rfl rfl rfl rfl ?_ | (refine gload rfl rfl ?_; refine j_qe rfl rfl rfl ?_; refine ⟨_, q_load_ext rfl rfl rfl rfl ⟨by assumption, (by first | exact id | assumption)⟩ (by first | rfl | assumption), ?_⟩) | (refine gcall rfl rfl ?_; first | (refine j_qc (f := 55) rfl rfl rfl rfl rfl rfl rfl ?_; refine ⟨_, (fun w' hs => h1 w' (hA.st hs)), ?_⟩) | (refine j_qc (f := 55) rfl rfl rfl rfl rfl rfl rfl ?_; refine ⟨_, (fun w' hs => h2 w' (hB.st hs)), ?_⟩) | (refine j_qc (f := 59) rfl rfl rfl rfl rfl rfl rfl ?_; refine ⟨_, (fun w' hs => h3 w' (hA.st hs) (hB.st hs)), ?_⟩) | (refine j_qc (f := 58) rfl rfl rfl rfl rfl rfl rfl ?_; refine ⟨_, (fun w' hs => by have h9 := trimmed_c (some ad2) c2 T w' (by omega) (by omega) (sl_of_own hs (by (repeat constructor)) hT.symm rfl).rs; rw [trim_limbs hTi hvT, hT] at h9; exact h9), ?_⟩)) | (refine gcall rfl rfl ?_; refine gF ?_; refine j_nat (f := 27) rfl rfl rfl rfl rfl rfl rfl (fun w' hs => of_c (a % b) w' (by omega)) ?_; intro A3 c3) | (refine gcall rfl rfl ?_; refine gF ?_; refine j_callN (f := 56) rfl rfl rfl rfl rfl rfl rfl (fun v => v) (fun _ => True) (fun v => [.own v 92 1 n (l.flatMap u32C)]) (fun w' hs => h4 w' (hA.st hs)) (fun _ => trivial) ?_; rintro v9 _; refine j_own_pos (v := v9) (by (repeat constructor)) hpos ?_; rintro ad2 c2 rfl hc2) | (refine gcall rfl rfl ?_; refine gF ?_; refine j_call (f := 144) (ξ := List Int) (fun _ => .int .u32 ((a % b : Nat) : Int)) (fun x => x.length = n ∧ inB x ∧ vl x = ((a / b : Nat) : Int)) (fun x => [.own (.slice (some ad2) n c2) 92 1 n (x.flatMap u32C)]) rfl rfl rfl rfl rfl rfl rfl (fun w' hs => divided_n hs (by (repeat constructor)) (fun _ => by (repeat constructor)) hn (by omega) ia va hb0 hb) ?_; rintro T ⟨hT, hTi, hvT⟩) | (refine j_qe rfl rfl rfl ?_; refine ⟨_, q_convw (k := .u64) rfl rfl rfl rfl rfl rfl (u64_wrap (by omega) (by omega)), ?_⟩) | (refine j_qe rfl rfl rfl ?_; first | refine ⟨_, q_index_slice rfl rfl rfl rfl rfl (by omega), ?_⟩ | refine ⟨_, q_len_slice rfl rfl rfl rfl, ?_⟩)) | (refine gSC ?_; first | refine sc_mv rfl ?_ | refine sc_q rfl ?_ | refine sc_region ?_) | (refine gSQ ?_; first | refine sq_go rfl ?_ | refine sq_mv rfl ?_ | refine sq_ende (by first | exact .inl rfl | exact .inr rfl) rfl rfl ⟨_, (RVs.cons (RV.tmp rfl) (RVs.cons (RV.tmp rfl) (RVs.cons (RV.tmp rfl) (RVs.nil)))), ?_⟩) | refine j_nil ?_ | ((first | refine j_guard rfl rfl rfl rfl rfl ?_ ?_ | refine sc_cond rfl ?_ ?_) <;> intro hc <;> (first | exact absurd hc (by decide) | ((try simp only [engHC] at hc) <;> first | (exfalso; omega) | skip))))
    intro w' hS
    have htr := trim_limbs hTi hvT
    have htk := trim_take T
    rw [htr] at htk
    refine ⟨((some ad2, c2), _), trivial, rfl, ?_⟩
    have h9 := take_own hS (InL.there InL.here) (by omega : (limbs (a / b)).length ≤ n) (Upd.there Upd.here)
    rw [flat_take, ← htk.1] at h9
    exact h9.sub (by repeat (first | exact LSub.nil | refine LSub.cons (by repeat (first | exact Rem.here | apply Rem.there)) ?_))
theorem blen_spec (n : Nat) (h : n ≤ 65535) : n < 2 ^ Lib.bitLen n ∧ Lib.bitLen n ≤ 16 := by
  by_cases h8 : 256 ≤ n
  · rw [Lib.bitLen_shift8 n h8 (by omega)]
    have h1 := blen_lt ⟨n / 256, by omega⟩
    have h2 := Lib.bitLen_le8 ⟨n / 256, by omega⟩
    dsimp only at h1 h2
    refine ⟨?_, by omega⟩
    rw [Nat.pow_add]
    omega
  · have h1 := blen_lt ⟨n, by omega⟩
    have h2 := Lib.bitLen_le8 ⟨n, by omega⟩
    dsimp only at h1 h2
    exact ⟨h1, by omega⟩
theorem pow_sq {a s s' : Nat} (h : s = s' / 2) : (s' % 2 = 0 → a ^ s * a ^ s = a ^ s') ∧ (s' % 2 = 1 → a ^ s * a ^ s * a = a ^ s') := by
  constructor
  · intro h2
    rw [← Nat.pow_add]
    congr 1
    omega
  · intro h2
    rw [← Nat.pow_add, ← Nat.pow_succ]
    congr 1
    omega
theorem pow_c (A : Option Addr) (c a n : Nat) (w : World) (ha : a ≤ 10000) (hn : n ≤ 500) (hA : SL w A c (limbs a)) :
    Calls Tryz.prog 26 #[.slice A (limbs a).length c, .int .i64 n] w fun e w' => ∃ v : Value, True ∧ e = .returned (.tuple #[v, .int .i64 0]) ∧ St w Cold [haN v (a ^ n)] w' := by
  have h1 := fun w' hA => right_c A c a w' (by have := small_len (a := a) (by omega); omega) hA
  have h2 := fun w' hA => copied_c A c (limbs a) w' (by have := small_len (a := a) (by omega); omega) hA
  rcases Nat.eq_zero_or_pos n with hn0 | hn0
  · subst hn0
    rw [Nat.pow_zero]
    refine eng_start (n := 73) (args := [.slice A (limbs a).length c, .int .i64 (0 : Nat)]) tab tab_ok fns fns_ok [.tmp 4, .tmp 5] Tryz.func26 rfl rfl rfl rfl ?_
    repeat' (first | (refine gJ ?_; first | refine js rfl rfl rfl rfl ?_ | (refine gcall rfl rfl ?_; (refine j_qc (f := 55) rfl rfl rfl rfl rfl rfl rfl ?_; refine ⟨_, (fun w' hs => h1 w' (hA.st hs)), ?_⟩)) | (refine gcall rfl rfl ?_; refine gF ?_; refine j_nat (f := 27) rfl rfl rfl rfl rfl rfl rfl (fun w' hs => of_c 1 w' (by omega)) ?_; intro A3 c3)) | (refine gSC ?_; first | refine sc_mv rfl ?_ | refine sc_q rfl ?_ | refine sc_region ?_) | (refine gSQ ?_; first | refine sq_go rfl ?_ | refine sq_mv rfl ?_ | refine sq_ende (by first | exact .inl rfl | exact .inr rfl) rfl rfl ⟨_, (RVs.cons (RV.tmp rfl) (RVs.cons (RV.tmp rfl) (RVs.nil))), ?_⟩) | refine j_nil ?_ | ((first | refine j_guard rfl rfl rfl rfl rfl ?_ ?_ | refine sc_cond rfl ?_ ?_) <;> intro hc <;> (first | exact absurd hc (by decide) | ((try simp only [engHC] at hc) <;> skip))))
    intro w' hS
    exact ⟨_, trivial, rfl, hS.sub (by repeat (first | exact LSub.nil | refine LSub.cons (by repeat (first | exact Rem.here | apply Rem.there)) ?_))⟩
  rcases Nat.eq_zero_or_pos a with ha0 | ha0
  · subst ha0
    have e0 : limbs 0 = [] := rfl
    have e1 : 0 ^ n = 0 := Nat.zero_pow hn0
    rw [e1]
    refine eng_start (n := 73) (args := [.slice A 0 c, .int .i64 n]) tab tab_ok fns fns_ok [.tmp 4, .tmp 5] Tryz.func26 rfl rfl rfl rfl ?_
    repeat' (first | (refine gJ ?_; first | refine js rfl rfl rfl rfl ?_ | (refine gcall rfl rfl ?_; (refine j_qc (f := 55) rfl rfl rfl rfl rfl rfl rfl ?_; refine ⟨_, (fun w' hs => h1 w' (hA.st hs)), ?_⟩)) | (refine gcall rfl rfl ?_; refine gF ?_; refine j_nat (f := 56) rfl rfl rfl rfl rfl rfl rfl (fun w' hs => h2 w' (hA.st hs)) ?_; intro A3 c3) | (refine j_qe rfl rfl rfl ?_; refine ⟨_, q_len_slice rfl rfl rfl rfl, ?_⟩) | refine j_guard_undef rfl rfl rfl rfl rfl ?_) | (refine gSC ?_; first | refine sc_mv rfl ?_ | refine sc_q rfl ?_ | refine sc_region ?_) | (refine gSQ ?_; first | refine sq_go rfl ?_ | refine sq_mv rfl ?_ | refine sq_ende (by first | exact .inl rfl | exact .inr rfl) rfl rfl ⟨_, (RVs.cons (RV.tmp rfl) (RVs.cons (RV.tmp rfl) (RVs.nil))), ?_⟩) | refine j_nil ?_ | ((first | refine j_guard rfl rfl rfl rfl rfl ?_ ?_ | refine sc_cond rfl ?_ ?_) <;> intro hc <;> (first | exact absurd hc (by decide) | ((try simp only [engHC] at hc) <;> first | (exfalso; omega) | skip))))
    intro w' hS
    exact ⟨_, trivial, rfl, hS.sub (by repeat (first | exact LSub.nil | refine LSub.cons (by repeat (first | exact Rem.here | apply Rem.there)) ?_))⟩
  have el := limbs_one ha0 (by omega : a < 4294967296)
  have hA' := hA
  rw [el] at hA' h1 ⊢
  simp only [List.length_singleton] at h1 ⊢
  obtain ⟨ad, rfl, hX⟩ := hA'.rs 0 _ rfl
  by_cases ha1 : a = 1
  · have e1 : a ^ n = a := by rw [ha1, Nat.one_pow]
    rw [e1]
    have h2' : ∀ w', SL w' (some ad) c (limbs a) → Calls Tryz.prog 56 #[.slice (some ad) 1 c] w' fun e w'_1 => ∃ v : Value, True ∧ e = .returned v ∧ St w' Cold [haN v a] w'_1 := fun w' h => by
      have := h2 w' h
      rw [show (limbs a).length = 1 by rw [el]; rfl] at this
      unfold haN
      rw [show (limbs a).length = 1 by rw [el]; rfl]
      exact this
    refine eng_start (n := 73) (args := [.slice (some ad) 1 c, .int .i64 n]) tab tab_ok fns fns_ok [.tmp 4, .tmp 5] Tryz.func26 rfl rfl rfl rfl ?_
    repeat' (first | (refine gJ ?_; first | refine js rfl rfl rfl rfl ?_ | (refine gload rfl rfl ?_; refine j_qe rfl rfl rfl ?_; refine ⟨_, q_load_ext rfl rfl rfl rfl ⟨by assumption, (by first | exact id | assumption)⟩ (by first | rfl | assumption), ?_⟩) | (refine gcall rfl rfl ?_; (refine j_qc (f := 55) rfl rfl rfl rfl rfl rfl rfl ?_; refine ⟨_, (fun w' hs => h1 w' (hA'.st hs)), ?_⟩)) | (refine gcall rfl rfl ?_; refine gF ?_; refine j_nat (f := 56) rfl rfl rfl rfl rfl rfl rfl (fun w' hs => h2' w' (hA.st hs)) ?_; intro A3 c3) | (refine j_qe rfl rfl rfl ?_; first | refine ⟨_, q_index_slice rfl rfl rfl rfl rfl (by omega), ?_⟩ | refine ⟨_, q_len_slice rfl rfl rfl rfl, ?_⟩)) | (refine gSC ?_; first | refine sc_mv rfl ?_ | refine sc_q rfl ?_ | refine sc_region ?_) | (refine gSQ ?_; first | refine sq_go rfl ?_ | refine sq_mv rfl ?_ | refine sq_ende (by first | exact .inl rfl | exact .inr rfl) rfl rfl ⟨_, (RVs.cons (RV.tmp rfl) (RVs.cons (RV.tmp rfl) (RVs.nil))), ?_⟩) | refine j_nil ?_ | ((first | refine j_guard rfl rfl rfl rfl rfl ?_ ?_ | refine sc_cond rfl ?_ ?_) <;> intro hc <;> (first | exact absurd hc (by decide) | ((try simp only [engHC] at hc) <;> first | (exfalso; omega) | skip))))
    intro w' hS
    exact ⟨_, trivial, rfl, hS.sub (by repeat (first | exact LSub.nil | refine LSub.cons (by repeat (first | exact Rem.here | apply Rem.there)) ?_))⟩
  · obtain ⟨hb1, hb2⟩ := blen_spec n (by omega)
    obtain ⟨B, hB⟩ : ∃ B, Lib.bitLen n = B := ⟨_, rfl⟩
    have hlen : ∀ w', Calls Tryz.prog 57 #[.int .u64 n] w' fun e w'' => e = .returned (.int .i64 (B : Nat)) ∧ Below w'.heap.size w' w'' := fun w' => by rw [← hB]; exact len_c n w' (by omega)
    rw [hB] at hb1 hb2
    have e0 : a ^ (n / 2 ^ B) = 1 := by rw [Nat.div_eq_of_lt hb1, Nat.pow_zero]
    have hone : ∀ w', Calls Tryz.prog 27 #[.int .u64 1] w' fun e w'' => ∃ v : Value, True ∧ e = .returned v ∧ St w' Cold [haN v (a ^ (n / 2 ^ B))] w'' := fun w' => by rw [e0]; exact of_c 1 w' (by omega)
    refine eng_start (n := 73) (args := [.slice (some ad) 1 c, .int .i64 n]) tab tab_ok fns fns_ok [.tmp 4, .tmp 5] Tryz.func26 rfl rfl rfl rfl ?_
    repeat' (first | (refine gJ ?_; first | refine js rfl rfl rfl rfl ?_ | (refine gload rfl rfl ?_; refine j_qe rfl rfl rfl ?_; refine ⟨_, q_load_ext rfl rfl rfl rfl ⟨by assumption, (by first | exact id | assumption)⟩ (by first | rfl | assumption), ?_⟩) | refine jar rfl rfl rfl rfl rfl rfl rfl (by omega) ?_ | (refine gcall rfl rfl ?_; first | (refine j_qc (f := 55) rfl rfl rfl rfl rfl rfl rfl ?_; refine ⟨_, (fun w' hs => h1 w' (hA'.st hs)), ?_⟩) | (refine j_qc (f := 57) rfl rfl rfl rfl rfl rfl rfl ?_; refine ⟨_, (fun w' hs => hlen w'), ?_⟩)) | (refine gcall rfl rfl ?_; refine gF ?_; refine j_nat (f := 27) rfl rfl rfl rfl rfl rfl rfl (fun w' hs => hone w') ?_; intro A3 c3) | (refine j_qe rfl rfl rfl ?_; first | refine ⟨_, q_index_slice rfl rfl rfl rfl rfl (by omega), ?_⟩ | refine ⟨_, q_len_slice rfl rfl rfl rfl, ?_⟩ | refine ⟨_, q_conv rfl rfl rfl rfl rfl rfl (by first | rfl | (exact i64_wrap (by omega) (by omega)) | (exact u8_wrap (by omega) (by omega)) | (exact u64_wrap (by omega) (by omega)) | (exact u16_wrap (by omega) (by omega))), ?_⟩)) | (refine gSC ?_; first | refine sc_mv rfl ?_ | refine sc_q rfl ?_ | refine sc_region ?_) | (refine gSQ ?_; refine sq_go rfl ?_) | refine j_nil ?_ | ((first | refine j_guard rfl rfl rfl rfl rfl ?_ ?_ | refine sc_cond rfl ?_ ?_) <;> intro hc <;> (first | exact absurd hc (by decide) | ((try simp only [engHC] at hc) <;> first | (exfalso; omega) | skip))))
    refine sc_loop (ι := (Nat × Nat) × Option Addr × Nat) (fun k => k.1.1 ≤ B ∧ k.1.2 = n / 2 ^ k.1.1) (fun k => k.1.1)
      (fun k => [(0, .slice (some ad) 1 c), (1, .int .i64 n), (6, .slice k.2.1 (limbs (a ^ k.1.2)).length k.2.2), (7, .int .i64 ((k.1.1 : Int) - 1))]) (fun k => [haN (.slice k.2.1 (limbs (a ^ k.1.2)).length k.2.2) (a ^ k.1.2)]) ((B, n / 2 ^ B), A3, c3)
      ⟨Nat.le_refl _, rfl⟩ (by repeat (first | exact FSub.nil | refine FSub.cons rfl ?_ | refine FSub.conse rfl (by congr 1; omega) ?_)) (by repeat (first | exact LSub.nil | refine LSub.cons (by repeat (first | exact Rem.here | apply Rem.there)) ?_)) ?_
    rintro ⟨⟨k, s⟩, A4, c4⟩ ⟨hk, hs⟩
    dsimp only at hk hs ⊢
    cases k with
    | zero =>
      have : s = n := by simpa using hs
      subst this
      repeat' (first | (refine gJ ?_; refine js rfl rfl rfl rfl ?_) | (refine gSC ?_; first | refine sc_mv rfl ?_ | refine sc_q rfl ?_ | refine sc_region ?_) | (refine gSQ ?_; first | refine sq_go rfl ?_ | refine sq_mv rfl ?_ | refine sq_ende (by first | exact .inl rfl | exact .inr rfl) rfl rfl ⟨_, (RVs.cons (RV.tmp rfl) (RVs.cons (RV.tmp rfl) (RVs.nil))), ?_⟩) | refine j_nil ?_ | ((refine sc_cond rfl ?_ ?_) <;> intro hc <;> (first | exact absurd hc (by decide) | ((try simp only [engHC] at hc) <;> skip))))
      intro w' hS
      exact ⟨_, trivial, rfl, hS.sub (by repeat (first | exact LSub.nil | refine LSub.cons (by repeat (first | exact Rem.here | apply Rem.there)) ?_))⟩
    | succ j =>
      obtain ⟨s', hs'⟩ : ∃ s', s' = n / 2 ^ j := ⟨_, rfl⟩
      have hss : s = s' / 2 := by rw [hs, hs', Nat.div_div_eq_div_mul, Nat.pow_succ]
      have hle : s' ≤ 500 := by
        have := Nat.div_le_self n (2 ^ j)
        omega
      have ej : ((j + 1 : Nat) : Int) - 1 = j := by omega
      rw [ej]
      have hps : (limbs (a ^ s)).length ≤ 256 := cap_len (pow_cap ha (by omega))
      have hps2 : (limbs (a ^ s * a ^ s)).length ≤ 256 := cap_len (by rw [← Nat.pow_add]; exact pow_cap ha (by omega))
      have hmul := fun w' h => mul_c A4 c4 (a ^ s) A4 c4 (a ^ s) w' (by omega) h h
      obtain ⟨p0, p1⟩ := pow_sq (a := a) hss
      by_cases hodd : s' % 2 = 1
      · have e1 := p1 hodd
        have hmul2 : ∀ (A5 : Option Addr) (c5 : Nat) (w' : World), SL w' A5 c5 (limbs (a ^ s * a ^ s)) → SL w' (some ad) c (limbs a) → Calls Tryz.prog 28 #[.slice A5 (limbs (a ^ s * a ^ s)).length c5, .slice (some ad) 1 c] w' fun e w'' => ∃ v : Value, True ∧ e = .returned (.tuple #[v, .int .i64 0]) ∧ St w' Cold [haN v (a ^ s')] w'' := fun A5 c5 w' h5 h6 => by
          have h7 := mul_c A5 c5 (a ^ s * a ^ s) (some ad) c a w' (by rw [el]; simp; omega) h5 h6
          rw [e1, show (limbs a).length = 1 by rw [el]; rfl] at h7
          exact h7
        repeat' (first | (refine gJ ?_; first | refine js rfl rfl rfl rfl ?_ | refine jar rfl rfl rfl rfl rfl rfl rfl (by omega) ?_ | (refine gcall rfl rfl ?_; refine gF ?_; refine j_nat2 (f := 28) rfl rfl rfl rfl rfl rfl rfl (fun w' hs => hmul2 A5 c5 w' (sl_of_own hs (by (repeat constructor)) rfl rfl) (hA.st hs)) ?_; intro A6 c6) | (refine gcall rfl rfl ?_; refine gF ?_; refine j_nat2 (f := 28) rfl rfl rfl rfl rfl rfl rfl (fun w' hs => hmul w' (sl_of_own hs (by (repeat constructor)) rfl rfl)) ?_; intro A5 c5) | (refine j_qe rfl rfl rfl ?_; refine ⟨_, q_shrn rfl rfl rfl (by show j ≤ 64; omega) hs', ?_⟩) | (refine j_qe rfl rfl rfl ?_; refine ⟨_, q_and1k rfl rfl rfl (by omega), ?_⟩)) | (refine gSC ?_; first | refine sc_mv rfl ?_ | refine sc_q rfl ?_ | refine sc_region ?_) | (refine gSQ ?_; first | refine sq_go rfl ?_ | refine sq_mv rfl ?_) | refine j_nil ?_ | ((first | refine j_guard rfl rfl rfl rfl rfl ?_ ?_ | refine sc_cond rfl ?_ ?_) <;> intro hc <;> (first | exact absurd hc (by decide) | ((try simp only [engHC] at hc) <;> first | (exfalso; omega) | skip))))
        exact sq_loop ((j, s'), A6, c6) ⟨by show j ≤ B; omega, hs'⟩ (by show j < j + 1; omega) (by repeat (first | exact FSub.nil | refine FSub.cons rfl ?_ | refine FSub.conse rfl (by congr 1; omega) ?_)) (by repeat (first | exact LSub.nil | refine LSub.cons (by repeat (first | exact Rem.here | apply Rem.there)) ?_))
      · have e0 := p0 (by omega)
        rw [e0] at hmul
        repeat' (first | (refine gJ ?_; first | refine js rfl rfl rfl rfl ?_ | refine jar rfl rfl rfl rfl rfl rfl rfl (by omega) ?_ | (refine gcall rfl rfl ?_; refine gF ?_; refine j_nat2 (f := 28) rfl rfl rfl rfl rfl rfl rfl (fun w' hs => hmul w' (sl_of_own hs (by (repeat constructor)) rfl rfl)) ?_; intro A5 c5) | (refine j_qe rfl rfl rfl ?_; refine ⟨_, q_shrn rfl rfl rfl (by show j ≤ 64; omega) hs', ?_⟩) | (refine j_qe rfl rfl rfl ?_; refine ⟨_, q_and1k rfl rfl rfl (by omega), ?_⟩)) | (refine gSC ?_; first | refine sc_mv rfl ?_ | refine sc_q rfl ?_ | refine sc_region ?_) | (refine gSQ ?_; first | refine sq_go rfl ?_ | refine sq_mv rfl ?_) | refine j_nil ?_ | ((first | refine j_guard rfl rfl rfl rfl rfl ?_ ?_ | refine sc_cond rfl ?_ ?_) <;> intro hc <;> (first | exact absurd hc (by decide) | ((try simp only [engHC] at hc) <;> first | (exfalso; omega) | skip))))
        exact sq_loop ((j, s'), A5, c5) ⟨by show j ≤ B; omega, hs'⟩ (by show j < j + 1; omega) (by repeat (first | exact FSub.nil | refine FSub.cons rfl ?_ | refine FSub.conse rfl (by congr 1; omega) ?_)) (by repeat (first | exact LSub.nil | refine LSub.cons (by repeat (first | exact Rem.here | apply Rem.there)) ?_))
end Go.Proofs.YtmakokbpadmfbaaGreat

