/-
  The reference: digits.
-/
import Derived.Test.YtmakokbpadmfbaaGreatNat2
import Derived.Test.YtmakokbpadmfbaaGreatEngCoreB
namespace Go.Proofs.YtmakokbpadmfbaaGreat
open Go.RowKit Eng
set_option linter.unusedVariables false
set_option linter.unusedSimpArgs false
set_option maxHeartbeats 8000000
attribute [local irreducible] SC SQ J Qt Calls Iterates LSub FSub
def dgf : Nat → Nat → List Nat
  | 0, _ => []
  | f + 1, n => if n = 0 then [] else n % 10000 :: dgf f (n / 10000)
theorem dgf_eq : ∀ (f g n : Nat), n ≤ f → n ≤ g → dgf f n = dgf g n
  | 0, 0, n, _, _ => rfl
  | 0, g + 1, n, h, _ => by simp only [dgf]; rw [if_pos (by omega)]
  | f + 1, 0, n, _, h => by simp only [dgf]; rw [if_pos (by omega)]
  | f + 1, g + 1, n, h1, h2 => by
    simp only [dgf]
    split
    · rfl
    · rw [dgf_eq f g (n / 10000) (by omega) (by omega)]
def dg (n : Nat) : List Nat := dgf n n
theorem dg_zero : dg 0 = [] := rfl
theorem dg_pos {n : Nat} (h : 0 < n) : dg n = n % 10000 :: dg (n / 10000) := by
  unfold dg
  obtain ⟨m, rfl⟩ : ∃ m, n = m + 1 := ⟨n - 1, by omega⟩
  simp only [dgf]
  rw [if_neg (by omega), dgf_eq m ((m + 1) / 10000) _ (by omega) (Nat.le_refl _)]
theorem dg_ind {P : Nat → Prop} (h0 : P 0) (h1 : ∀ n, 0 < n → P (n / 10000) → P n) (n : Nat) : P n := by
  induction n using Nat.strongRecOn with
  | _ n ih =>
    rcases Nat.eq_zero_or_pos n with h | h
    · subst h; exact h0
    · exact h1 n h (ih _ (by omega))
def inD (l : List Nat) : Prop := ∀ x ∈ l, x < 10000
theorem dg_in (n : Nat) : inD (dg n) := by
  induction n using dg_ind with
  | h0 => intro x hx; cases hx
  | h1 n h ih =>
    rw [dg_pos h]
    intro x hx
    rcases List.mem_cons.1 hx with rfl | hx
    · omega
    · exact ih x hx
def vd : List Nat → Nat
  | [] => 0
  | x :: l => x + 10000 * vd l
theorem vd_dg (n : Nat) : vd (dg n) = n := by
  induction n using dg_ind with
  | h0 => rfl
  | h1 n h ih =>
    rw [dg_pos h]
    simp only [vd, ih]
    omega
theorem vd_app : ∀ (l m : List Nat), vd (l ++ m) = vd l + 10000 ^ l.length * vd m
  | [], m => by simp [vd]
  | x :: l, m => by
    simp only [List.cons_append, vd, vd_app l m, List.length_cons, Nat.pow_succ, Nat.mul_add]
    rw [Nat.mul_comm (10000 ^ l.length) 10000, Nat.mul_assoc]
    omega
theorem dg_drop (n : Nat) : ∀ i, (dg n).drop i = dg (n / 10000 ^ i)
  | 0 => by simp
  | i + 1 => by
    rcases Nat.eq_zero_or_pos n with h | h
    · subst h; simp [dg_zero]
    · rw [dg_pos h, List.drop_succ_cons, dg_drop (n / 10000) i, Nat.div_div_eq_div_mul, Nat.pow_succ, Nat.mul_comm]
theorem dg_nil {n : Nat} : dg n = [] ↔ n = 0 := by
  constructor
  · intro h
    rcases Nat.eq_zero_or_pos n with h1 | h1
    · exact h1
    · rw [dg_pos h1] at h
      cases h
  · intro h
    subst h
    rfl
theorem dg_len (n k : Nat) : (dg n).length ≤ k ↔ n < 10000 ^ k := by
  have h1 : (dg n).length ≤ k ↔ (dg n).drop k = [] := by rw [List.drop_eq_nil_iff]
  rw [h1, dg_drop, dg_nil, Nat.div_eq_zero_iff]
  have : 0 < 10000 ^ k := Nat.pow_pos (by omega)
  omega
theorem dg_lt {n i : Nat} : i < (dg n).length ↔ 0 < n / 10000 ^ i := by
  have h1 := dg_len n i
  have h3 : 0 < 10000 ^ i := Nat.pow_pos (by omega)
  have h2 : n / 10000 ^ i = 0 ↔ n < 10000 ^ i := by rw [Nat.div_eq_zero_iff]; omega
  generalize n / 10000 ^ i = q at *
  omega
theorem dg_get {n i : Nat} (h : i < (dg n).length) : (dg n)[i]? = some (n / 10000 ^ i % 10000) := by
  have h1 := dg_drop n i
  have h2 : ((dg n).drop i)[0]? = (dg n)[i]? := by rw [List.getElem?_drop, Nat.add_zero]
  rw [← h2, h1, dg_pos (dg_lt.1 h)]
  rfl
theorem div_next (n i : Nat) : n / 10000 ^ (i + 1) = n / 10000 ^ i / 10000 := by rw [Nat.pow_succ, Nat.div_div_eq_div_mul]
theorem dg_le {a b : Nat} (h : a ≤ b) : (dg a).length ≤ (dg b).length := by
  rw [dg_len]
  have := (dg_len b (dg b).length).1 (Nat.le_refl _)
  omega
def trimD (l : List Nat) : List Nat := (l.reverse.dropWhile fun x => decide (x = 0)).reverse
theorem trimD_zero (l : List Nat) : trimD (l ++ [0]) = trimD l := by simp [trimD]
theorem trimD_keep (l : List Nat) (x : Nat) (h : x ≠ 0) : trimD (l ++ [x]) = l ++ [x] := by simp [trimD, List.dropWhile_cons, h]
theorem dg_vd : ∀ (l : List Nat), inD l → (∀ x, l.getLast? = some x → x ≠ 0) → dg (vd l) = l
  | [], _, _ => rfl
  | [x], h, hl => by
    have h1 := hl x rfl
    have h2 := h x List.mem_cons_self
    simp only [vd]
    rw [dg_pos (by omega)]
    congr 1
    · omega
    · rw [dg_nil]; omega
  | x :: y :: l, h, hl => by
    have ih := dg_vd (y :: l) (fun z hz => h z (List.mem_cons_of_mem _ hz)) (fun z hz => hl z (by rw [List.getLast?_cons_cons]; exact hz))
    have h2 := h x List.mem_cons_self
    have h3 : 0 < vd (y :: l) := by
      rcases Nat.eq_zero_or_pos (vd (y :: l)) with h4 | h4
      · rw [h4] at ih; cases ih
      · exact h4
    rw [vd, dg_pos (by omega)]
    congr 1
    · omega
    · rw [show (x + 10000 * vd (y :: l)) / 10000 = vd (y :: l) by omega]
      exact ih
theorem rev_ind {P : List Nat → Prop} (h0 : P []) (h1 : ∀ l x, P l → P (l ++ [x])) (l : List Nat) : P l := by
  have : ∀ n l, l.length = n → P l := by
    intro n
    induction n with
    | zero => intro l hl; rw [List.length_eq_zero_iff.1 hl]; exact h0
    | succ n ih =>
      intro l hl
      have hne : l ≠ [] := by intro e; subst e; simp at hl
      rw [← List.dropLast_concat_getLast hne]
      exact h1 _ _ (ih _ (by simp [hl]))
  exact this _ l rfl
theorem trimD_dg (l : List Nat) : inD l → trimD l = dg (vd l) := by
  induction l using rev_ind with
  | h0 => intro _; rfl
  | h1 l x ih =>
    intro h
    have hl : inD l := fun y hy => h y (List.mem_append_left _ hy)
    by_cases hx : x = 0
    · subst hx
      rw [trimD_zero, ih hl, vd_app]
      simp [vd]
    · rw [trimD_keep _ _ hx, dg_vd _ h (fun y hy => by rw [List.getLast?_concat] at hy; injection hy with hy; omega)]
theorem trimD_self (n : Nat) : trimD (dg n) = dg n := by rw [trimD_dg _ (dg_in n), vd_dg]
theorem trimD_le (l : List Nat) : (trimD l).length ≤ l.length := by
  induction l using rev_ind with
  | h0 => simp [trimD]
  | h1 l x ih =>
    by_cases hx : x = 0
    · subst hx; rw [trimD_zero]; simp; omega
    · rw [trimD_keep _ _ hx]; exact Nat.le_refl _
theorem trimD_take (l : List Nat) : trimD l = l.take (trimD l).length := by
  induction l using rev_ind with
  | h0 => simp [trimD]
  | h1 l x ih =>
    by_cases hx : x = 0
    · subst hx
      rw [trimD_zero, List.take_append_of_le_length (trimD_le l)]
      exact ih
    · rw [trimD_keep _ _ hx, List.take_of_length_le (Nat.le_refl _)]
/-- One digit of a product. -/
theorem vd_times {o : List Nat} {x y c p : Nat} (h : vd o + 10000 ^ o.length * (x * y + c) = p) : vd (o ++ [(c + x % 10000 * y) % 10000]) + 10000 ^ (o.length + 1) * (x / 10000 * y + (c + x % 10000 * y) / 10000) = p := by
  rw [vd_app, ← h, Nat.pow_succ, Nat.mul_assoc, Nat.add_assoc, ← Nat.mul_add]
  congr 2
  simp only [vd, Nat.mul_zero, Nat.add_zero]
  have e1 : x * y = 10000 * (x / 10000 * y) + x % 10000 * y := by
    rw [← Nat.mul_assoc, ← Nat.add_mul, Nat.div_add_mod]
  rw [e1, Nat.mul_add]
  generalize x / 10000 * y = A
  generalize x % 10000 * y = B
  omega
abbrev natC (x : Nat) : List Value := [.int .i64 (x : Int)]
abbrev haD (v : Value) (n : Nat) : HA := .own v 3 1 (dg n).length ((dg n).flatMap natC)
/-- Digits that came in. -/
structure SD (w : World) (A : Option Addr) (c : Nat) (n : Nat) : Prop where
  rs : RS w 1 natC A (dg n)
  sl : Sl A (dg n).length c
theorem SD.st {w0 w : World} {A : Option Addr} {c : Nat} {n : Nat} (h : SD w0 A c n) {L : List HA} (hs : St w0 Cold L w) : SD w A c n := ⟨h.rs.st hs, h.sl⟩
theorem sd_own {w0 w : World} {hot : Nat → Prop} {L : List HA} {n : Nat} {A : Option Addr} {c : Nat} (hs : St w0 hot L w) (hin : InL L (haD (.slice A (dg n).length c) n)) : SD w A c n := ⟨rs_own (fun _ => rfl) hs hin rfl rfl, sl_own hs hin⟩
theorem sd_nil {w : World} : SD w none 0 0 := ⟨RS.nil, ⟨fun _ => ⟨rfl, rfl⟩, Nat.le_refl _, by omega⟩⟩
section
variable {C : Cx} {F : Fr} {L : List HA} {o : Oper} {K : List KI} {ops : Array Oper} {rest : List Oper}
attribute [local semireducible] SC J
/-- A call that hands back digits. -/
theorem j_dg {al : List Operand} {fo : Operand} {ats : Array TypeId} {f d k : Nat} {caps vs : List Value} (ho : o.op = .call { callee := .value fo, args := al.toArray, argTypes := ats })
    (hg : o.guard = none) (hd : o.dst = some d) (hn : Nat.blt d C.n = true) (hfo : ev F fo = some (.func (.func f) #[] caps.toArray)) (ha : evs F al = some vs) (hc : has C.fns f = true)
    (hcall : ∀ w, St C.w0 C.hot L w → Calls C.P f (vs ++ caps).toArray w (fun e w' => ∃ v : Value, True ∧ e = .returned v ∧ St w Cold [haD v k] w'))
    (h : ∀ A c, Sl A (dg k).length c → J C ops false rest K ((d, .slice A (dg k).length c) :: F) (haD (.slice A (dg k).length c) k :: L)) : J C ops false (o :: rest) K F L :=
  j_callN ho hg hd hn hfo ha hc (fun v => v) (fun _ => True) (fun v => [haD v k]) hcall (fun _ => trivial) (fun v _ => j_owns (v := v) InL.here fun A c e hs => by subst e; exact h A c hs)
end
theorem take_snocN {l : List Nat} {k : Nat} {x : Nat} (h : l[k]? = some x) : l.take (k + 1) = l.take k ++ [x] := by
  rw [List.take_add_one, h]
  rfl
theorem trim_r (A : Option Addr) (c : Nat) (l : List Nat) (w : World) (hl : l.length ≤ 9223372036854775807) (hc : l.length ≤ c) (h : RS w 1 natC A l) :
    Calls Tryz.prog 154 #[.slice A l.length c] w fun e w' => e = .returned (.slice A (trimD l).length c) ∧ Below w.heap.size w w' := by
  generalize hn : l.length = n at *
  refine eng_start (n := 21) (args := [.slice A n c]) tab tab_ok fns fns_ok [.tmp 2] Tryz.func154 rfl rfl rfl rfl ?_
  repeat' (first | (refine gJ ?_; refine js rfl rfl rfl rfl ?_) | (refine gSC ?_; first | refine sc_mv rfl ?_ | refine sc_region ?_) | (refine gSQ ?_; refine sq_go rfl ?_) | refine j_nil ?_)
  refine sc_loop (ι := Nat) (fun k => k ≤ n ∧ trimD (l.take k) = trimD l) (fun k => k) (fun k => [(0, .slice A k c)]) (fun _ => []) n ⟨Nat.le_refl _, by rw [List.take_of_length_le (by omega)]⟩ (by repeat (first | exact FSub.nil | refine FSub.cons rfl ?_ | refine FSub.conse rfl (by congr 1; omega) ?_)) (by repeat (first | exact LSub.nil | refine LSub.cons (by repeat (first | exact Rem.here | apply Rem.there)) ?_)) ?_
  rintro k ⟨hk, hr⟩
  cases k with
  | zero =>
    repeat' (first | (refine gJ ?_; first | refine js rfl rfl rfl rfl ?_ | (refine j_qe rfl rfl rfl ?_; refine ⟨_, q_len_slice rfl rfl rfl rfl, ?_⟩)) | (refine gSC ?_; first | refine sc_mv rfl ?_ | refine sc_q rfl ?_ | refine sc_region ?_) | (refine gSQ ?_; first | refine sq_go rfl ?_ | refine sq_mv rfl ?_ | refine sq_ende (by first | exact .inl rfl | exact .inr rfl) rfl rfl ⟨_, (RVs.cons (RV.tmp rfl) (RVs.nil)), ?_⟩) | refine j_nil ?_ | ((first | refine j_guard rfl rfl rfl rfl rfl ?_ ?_ | refine sc_cond rfl ?_ ?_) <;> intro hc <;> (first | exact absurd hc (by decide) | ((try simp only [engHC] at hc) <;> skip))))
    (intro w' hS; refine ⟨?_, hS.below⟩; simp only [pack])
    rw [← hr]
    rfl
  | succ j =>
    obtain ⟨x, hx⟩ : ∃ x, l[j]? = some x := ⟨_, List.getElem?_eq_getElem (by omega)⟩
    obtain ⟨ad, rfl, hX⟩ := h j x hx
    have e1 : j = (((j + 1 : Nat) : Int) - 1).toNat := by omega
    rw [e1] at hX
    rw [take_snocN hx] at hr
    by_cases hx0 : x = 0
    · rw [hx0, trimD_zero] at hr
      repeat' (first | (refine gJ ?_; first | refine js rfl rfl rfl rfl ?_ | (refine gload rfl rfl ?_; refine j_qe rfl rfl rfl ?_; refine ⟨_, q_load_ext0 rfl rfl rfl rfl ⟨by assumption, (by first | exact id | assumption)⟩ (by rfl), ?_⟩) | refine jar rfl rfl rfl rfl rfl rfl rfl (by omega) ?_ | (refine j_qe rfl rfl rfl ?_; refine ⟨_, q_sliceHiI j rfl rfl rfl rfl rfl (by omega) (by omega), ?_⟩) | (refine j_qe rfl rfl rfl ?_; first | refine ⟨_, q_index_slice rfl rfl rfl rfl rfl (by omega), ?_⟩ | refine ⟨_, q_len_slice rfl rfl rfl rfl, ?_⟩)) | (refine gSC ?_; first | refine sc_mv rfl ?_ | refine sc_q rfl ?_ | refine sc_region ?_) | (refine gSQ ?_; first | refine sq_go rfl ?_ | refine sq_mv rfl ?_) | refine j_nil ?_ | ((first | refine j_guard rfl rfl rfl rfl rfl ?_ ?_ | refine sc_cond rfl ?_ ?_) <;> intro hc <;> (first | exact absurd hc (by decide) | ((try simp only [engHC] at hc) <;> first | (exfalso; omega) | skip))))
      exact sq_loop j ⟨by omega, hr⟩ (by omega) (by repeat (first | exact FSub.nil | refine FSub.cons rfl ?_ | refine FSub.conse rfl (by congr 1; omega) ?_)) (by repeat (first | exact LSub.nil | refine LSub.cons (by repeat (first | exact Rem.here | apply Rem.there)) ?_))
    · rw [trimD_keep _ _ hx0] at hr
      repeat' (first | (refine gJ ?_; first | refine js rfl rfl rfl rfl ?_ | (refine gload rfl rfl ?_; refine j_qe rfl rfl rfl ?_; refine ⟨_, q_load_ext0 rfl rfl rfl rfl ⟨by assumption, (by first | exact id | assumption)⟩ (by rfl), ?_⟩) | refine jar rfl rfl rfl rfl rfl rfl rfl (by omega) ?_ | (refine j_qe rfl rfl rfl ?_; first | refine ⟨_, q_index_slice rfl rfl rfl rfl rfl (by omega), ?_⟩ | refine ⟨_, q_len_slice rfl rfl rfl rfl, ?_⟩)) | (refine gSC ?_; first | refine sc_mv rfl ?_ | refine sc_q rfl ?_ | refine sc_region ?_) | (refine gSQ ?_; first | refine sq_go rfl ?_ | refine sq_mv rfl ?_ | refine sq_ende (by first | exact .inl rfl | exact .inr rfl) rfl rfl ⟨_, (RVs.cons (RV.tmp rfl) (RVs.nil)), ?_⟩) | refine j_nil ?_ | ((first | refine j_guard rfl rfl rfl rfl rfl ?_ ?_ | refine sc_cond rfl ?_ ?_) <;> intro hc <;> (first | exact absurd hc (by decide) | ((try simp only [engHC] at hc) <;> first | (exfalso; omega) | skip))))
      (intro w' hS; refine ⟨?_, hS.below⟩; simp only [pack])
      rw [← hr]
      congr 2
      simp; omega
theorem trim_d (A : Option Addr) (c n : Nat) (w : World) (h : SD w A c n) :
    Calls Tryz.prog 154 #[.slice A (dg n).length c] w fun e w' => e = .returned (.slice A (dg n).length c) ∧ Below w.heap.size w w' := by
  have h1 := trim_r A c (dg n) w (Nat.le_trans h.sl.le h.sl.top) h.sl.le h.rs
  rwa [trimD_self] at h1
theorem flatN_app (o : List Nat) (d : Nat) (z : Int) (h : z = d) : o.flatMap natC ++ [.int .i64 z] = (o ++ [d]).flatMap natC := by
  subst h
  rw [List.flatMap_append]
  rfl
theorem next_d (a i : Nat) : ∃ x X, a / 10000 ^ i = 10000 * X + x ∧ x < 10000 ∧ a / 10000 ^ (i + 1) = X ∧ a / 10000 ^ i % 10000 = x := ⟨a / 10000 ^ i % 10000, a / 10000 ^ i / 10000, by omega, by omega, div_next a i, rfl⟩
theorem dg_add2 {x y c X Y d e : Nat} (h : 0 < 10000 * X + x + (10000 * Y + y) + c) (hx : x < 10000) (hy : y < 10000) (hd : d = (x + y + c) % 10000) (he : e = (x + y + c) / 10000) :
    dg (10000 * X + x + (10000 * Y + y) + c) = d :: dg (X + Y + e) := by
  rw [dg_pos h]
  congr 1
  · omega
  · congr 1
    omega
set_option maxRecDepth 4000 in
set_option maxHeartbeats 8000000 in
theorem add_r (A : Option Addr) (c a : Nat) (B : Option Addr) (d b : Nat) (w : World) (hmax : (dg (a + b)).length ≤ 1000000) (hA : SD w A c a) (hB : SD w B d b) :
    Calls Tryz.prog 153 #[.slice A (dg a).length c, .slice B (dg b).length d] w fun e w' => ∃ v : Value, True ∧ e = .returned v ∧ St w Cold [haD v (a + b)] w' := by
  have la := dg_le (Nat.le_add_right a b)
  have lb := dg_le (Nat.le_add_left b a)
  have ga := fun i (h : i < (dg a).length) => dg_get h
  have gb := fun i (h : i < (dg b).length) => dg_get h
  have ta := fun i => dg_lt (n := a) (i := i)
  have tb := fun i => dg_lt (n := b) (i := i)
  obtain ⟨hRa, -⟩ := hA
  obtain ⟨hRb, -⟩ := hB
  obtain ⟨S, hS⟩ : ∃ S, dg (a + b) = S := ⟨_, rfl⟩
  obtain ⟨na, hna⟩ : ∃ na, (dg a).length = na := ⟨_, rfl⟩
  obtain ⟨nb, hnb⟩ : ∃ nb, (dg b).length = nb := ⟨_, rfl⟩
  rw [hS, hna] at la
  rw [hS, hnb] at lb
  rw [hS] at hmax
  rw [hna] at ga ta
  rw [hnb] at gb tb
  rw [hna, hnb]
  refine eng_start (n := 52) (args := [.slice A na c, .slice B nb d]) tab tab_ok fns fns_ok [.tmp 4] Tryz.func153 rfl rfl rfl rfl ?_
  repeat' (first | (refine gJ ?_; refine js rfl rfl rfl rfl ?_) | (refine gSC ?_; first | refine sc_mv rfl ?_ | refine sc_region ?_) | (refine gSQ ?_; refine sq_go rfl ?_) | refine j_nil ?_)
  refine sc_own_nil 3 1 ?_
  refine sc_loop (ι := Nat × Nat × List Nat × Value) (fun i => i.2.2.1.length = i.1 ∧ i.2.1 ≤ 1 ∧ i.2.2.1 ++ dg (a / 10000 ^ i.1 + b / 10000 ^ i.1 + i.2.1) = S) (fun i => S.length - i.1)
    (fun i => [(0, .slice A na c), (1, .slice B nb d), (5, i.2.2.2), (6, .int .i64 i.2.1), (7, .int .i64 i.1)]) (fun i => [.own i.2.2.2 3 1 i.1 (i.2.2.1.flatMap natC)]) (0, 0, [], .slice none 0 0) ⟨rfl, Nat.zero_le _, by simpa using hS⟩ (by repeat (first | exact FSub.nil | refine FSub.cons rfl ?_ | refine FSub.conse rfl (by congr 1; omega) ?_)) (by repeat (first | exact LSub.nil | refine LSub.cons (by repeat (first | exact Rem.here | apply Rem.there)) ?_)) ?_
  rintro ⟨i, k, o, v0⟩ ⟨hoi, hk, hr⟩
  dsimp only at hoi hk hr ⊢
  obtain ⟨x, X, ex, lx, nx, mx⟩ := next_d a i
  obtain ⟨y, Y, ey, ly, ny, my⟩ := next_d b i
  have ga := ga i
  have gb := gb i
  have ta := ta i
  have tb := tb i
  rw [mx] at ga
  rw [my] at gb
  rw [ex] at ta hr
  rw [ey] at tb hr
  clear mx my ex ey
  by_cases hstop : 10000 * X + x + (10000 * Y + y) + k = 0
  · rw [hstop, dg_zero, List.append_nil] at hr
    have z1 : ¬ i < na := by omega
    have z2 : ¬ i < nb := by omega
    have z3 : k = 0 := by omega
    subst z3
    repeat' (first | (refine gJ ?_; first | refine js rfl rfl rfl rfl ?_ | (refine j_qe rfl rfl rfl ?_; refine ⟨_, q_len_slice rfl rfl rfl rfl, ?_⟩)) | (refine gSC ?_; first | refine sc_mv rfl ?_ | refine sc_q rfl ?_ | refine sc_region ?_) | (refine gSQ ?_; first | refine sq_go rfl ?_ | refine sq_mv rfl ?_ | refine sq_ende (by first | exact .inl rfl | exact .inr rfl) rfl rfl ⟨_, (RVs.cons (RV.tmp rfl) (RVs.nil)), ?_⟩) | refine j_nil ?_ | ((first | refine j_guard rfl rfl rfl rfl rfl ?_ ?_ | refine sc_cond rfl ?_ ?_) <;> intro hc <;> (first | exact absurd hc (by decide) | ((try simp only [engHC] at hc) <;> first | (exfalso; omega) | skip))))
    intro w' hS'
    refine ⟨v0, trivial, rfl, ?_⟩
    show St w Cold [.own v0 3 1 (dg (a + b)).length ((dg (a + b)).flatMap natC)] w'
    rw [hS, ← hr, hoi]
    exact hS'.sub (by repeat (first | exact LSub.nil | refine LSub.cons (by repeat (first | exact Rem.here | apply Rem.there)) ?_))
  · obtain ⟨z, hz⟩ : ∃ z, z = (x + y + k) % 10000 := ⟨_, rfl⟩
    obtain ⟨e, he⟩ : ∃ e, e = (x + y + k) / 10000 := ⟨_, rfl⟩
    rw [dg_add2 (by omega) lx ly hz he] at hr
    have hr2 : (o ++ [z]) ++ dg (a / 10000 ^ (i + 1) + b / 10000 ^ (i + 1) + e) = S := by
      rw [nx, ny, List.append_assoc]
      exact hr
    have hlen : i + 1 ≤ S.length := by rw [← hr2]; simp; omega
    have hlast : ∀ z' : Int, z' = z → o.flatMap natC ++ [.int .i64 z'] = (o ++ [z]).flatMap natC := fun z' h => flatN_app o z z' h
    by_cases h1 : i < na <;> by_cases h2 : i < nb
    · obtain ⟨ad, rfl, hX⟩ := hRa i x (ga h1)
      obtain ⟨ad2, rfl, hY⟩ := hRb i y (gb h2)
      repeat' (first | (refine gJ ?_; first | refine js rfl rfl rfl rfl ?_ | (refine gload rfl rfl ?_; refine j_qe rfl rfl rfl ?_; refine ⟨_, q_load_ext0 rfl rfl rfl rfl ⟨by assumption, (by first | exact id | assumption)⟩ (by rfl), ?_⟩) | refine jar rfl rfl rfl rfl rfl rfl rfl (by omega) ?_ | (refine gF ?_; first | (refine j_buildSlice rfl rfl rfl rfl rfl rfl rfl rfl rfl rfl rfl rfl ?_; intro b) | (refine j_append rfl rfl rfl rfl rfl rfl rfl rfl rfl rfl rfl (by (repeat constructor)) (by (repeat constructor)) (by rfl) (by rfl) (by omega) (fun _ => by (repeat constructor)) ?_; intro v)) | (refine j_qe rfl rfl rfl ?_; first | refine ⟨_, q_index_nat rfl rfl rfl rfl rfl (by omega), ?_⟩ | refine ⟨_, q_len_slice rfl rfl rfl rfl, ?_⟩ | refine ⟨_, q_quo rfl rfl rfl (by omega), ?_⟩ | refine ⟨_, q_rem rfl rfl rfl (by omega), ?_⟩)) | (refine gSC ?_; first | refine sc_mv rfl ?_ | refine sc_q rfl ?_ | refine sc_region ?_) | (refine gSQ ?_; first | refine sq_go rfl ?_ | refine sq_mv rfl ?_) | refine j_nil ?_ | ((first | refine j_guard rfl rfl rfl rfl rfl ?_ ?_ | refine sc_cond rfl ?_ ?_) <;> intro hc <;> (first | exact absurd hc (by decide) | ((try simp only [engHC] at hc) <;> first | (exfalso; omega) | skip))))
      refine sq_loop (i + 1, e, o ++ [z], v) ⟨by simp [hoi], by show e ≤ 1; omega, hr2⟩ (by show S.length - (i + 1) < S.length - i; omega) (by dsimp only; exact (by repeat (first | exact FSub.nil | refine FSub.cons rfl ?_ | refine FSub.conse rfl (by congr 1; omega) ?_))) ?_
      dsimp only
      rw [← hlast (((k : Int) + x + y) % 10000) (by omega)]
      exact (by repeat (first | exact LSub.nil | refine LSub.cons (by repeat (first | exact Rem.here | apply Rem.there)) ?_))
    · obtain ⟨ad, rfl, hX⟩ := hRa i x (ga h1)
      obtain ⟨rfl, rfl⟩ : Y = 0 ∧ y = 0 := by omega
      repeat' (first | (refine gJ ?_; first | refine js rfl rfl rfl rfl ?_ | (refine gload rfl rfl ?_; refine j_qe rfl rfl rfl ?_; refine ⟨_, q_load_ext0 rfl rfl rfl rfl ⟨by assumption, (by first | exact id | assumption)⟩ (by rfl), ?_⟩) | refine jar rfl rfl rfl rfl rfl rfl rfl (by omega) ?_ | (refine gF ?_; first | (refine j_buildSlice rfl rfl rfl rfl rfl rfl rfl rfl rfl rfl rfl rfl ?_; intro b) | (refine j_append rfl rfl rfl rfl rfl rfl rfl rfl rfl rfl rfl (by (repeat constructor)) (by (repeat constructor)) (by rfl) (by rfl) (by omega) (fun _ => by (repeat constructor)) ?_; intro v)) | (refine j_qe rfl rfl rfl ?_; first | refine ⟨_, q_index_nat rfl rfl rfl rfl rfl (by omega), ?_⟩ | refine ⟨_, q_len_slice rfl rfl rfl rfl, ?_⟩ | refine ⟨_, q_quo rfl rfl rfl (by omega), ?_⟩ | refine ⟨_, q_rem rfl rfl rfl (by omega), ?_⟩)) | (refine gSC ?_; first | refine sc_mv rfl ?_ | refine sc_q rfl ?_ | refine sc_region ?_) | (refine gSQ ?_; first | refine sq_go rfl ?_ | refine sq_mv rfl ?_) | refine j_nil ?_ | ((first | refine j_guard rfl rfl rfl rfl rfl ?_ ?_ | refine sc_cond rfl ?_ ?_) <;> intro hc <;> (first | exact absurd hc (by decide) | ((try simp only [engHC] at hc) <;> first | (exfalso; omega) | skip))))
      refine sq_loop (i + 1, e, o ++ [z], v) ⟨by simp [hoi], by show e ≤ 1; omega, hr2⟩ (by show S.length - (i + 1) < S.length - i; omega) (by dsimp only; exact (by repeat (first | exact FSub.nil | refine FSub.cons rfl ?_ | refine FSub.conse rfl (by congr 1; omega) ?_))) ?_
      dsimp only
      rw [← hlast (((k : Int) + x) % 10000) (by omega)]
      exact (by repeat (first | exact LSub.nil | refine LSub.cons (by repeat (first | exact Rem.here | apply Rem.there)) ?_))
    · obtain ⟨ad2, rfl, hY⟩ := hRb i y (gb h2)
      obtain ⟨rfl, rfl⟩ : X = 0 ∧ x = 0 := by omega
      repeat' (first | (refine gJ ?_; first | refine js rfl rfl rfl rfl ?_ | (refine gload rfl rfl ?_; refine j_qe rfl rfl rfl ?_; refine ⟨_, q_load_ext0 rfl rfl rfl rfl ⟨by assumption, (by first | exact id | assumption)⟩ (by rfl), ?_⟩) | refine jar rfl rfl rfl rfl rfl rfl rfl (by omega) ?_ | (refine gF ?_; first | (refine j_buildSlice rfl rfl rfl rfl rfl rfl rfl rfl rfl rfl rfl rfl ?_; intro b) | (refine j_append rfl rfl rfl rfl rfl rfl rfl rfl rfl rfl rfl (by (repeat constructor)) (by (repeat constructor)) (by rfl) (by rfl) (by omega) (fun _ => by (repeat constructor)) ?_; intro v)) | (refine j_qe rfl rfl rfl ?_; first | refine ⟨_, q_index_nat rfl rfl rfl rfl rfl (by omega), ?_⟩ | refine ⟨_, q_len_slice rfl rfl rfl rfl, ?_⟩ | refine ⟨_, q_quo rfl rfl rfl (by omega), ?_⟩ | refine ⟨_, q_rem rfl rfl rfl (by omega), ?_⟩)) | (refine gSC ?_; first | refine sc_mv rfl ?_ | refine sc_q rfl ?_ | refine sc_region ?_) | (refine gSQ ?_; first | refine sq_go rfl ?_ | refine sq_mv rfl ?_) | refine j_nil ?_ | ((first | refine j_guard rfl rfl rfl rfl rfl ?_ ?_ | refine sc_cond rfl ?_ ?_) <;> intro hc <;> (first | exact absurd hc (by decide) | ((try simp only [engHC] at hc) <;> first | (exfalso; omega) | skip))))
      refine sq_loop (i + 1, e, o ++ [z], v) ⟨by simp [hoi], by show e ≤ 1; omega, hr2⟩ (by show S.length - (i + 1) < S.length - i; omega) (by dsimp only; exact (by repeat (first | exact FSub.nil | refine FSub.cons rfl ?_ | refine FSub.conse rfl (by congr 1; omega) ?_))) ?_
      dsimp only
      rw [← hlast (((k : Int) + y) % 10000) (by omega)]
      exact (by repeat (first | exact LSub.nil | refine LSub.cons (by repeat (first | exact Rem.here | apply Rem.there)) ?_))
    · obtain ⟨rfl, rfl⟩ : X = 0 ∧ x = 0 := by omega
      obtain ⟨rfl, rfl⟩ : Y = 0 ∧ y = 0 := by omega
      repeat' (first | (refine gJ ?_; first | refine js rfl rfl rfl rfl ?_ | refine jar rfl rfl rfl rfl rfl rfl rfl (by omega) ?_ | (refine gF ?_; first | (refine j_buildSlice rfl rfl rfl rfl rfl rfl rfl rfl rfl rfl rfl rfl ?_; intro b) | (refine j_append rfl rfl rfl rfl rfl rfl rfl rfl rfl rfl rfl (by (repeat constructor)) (by (repeat constructor)) (by rfl) (by rfl) (by omega) (fun _ => by (repeat constructor)) ?_; intro v)) | (refine j_qe rfl rfl rfl ?_; first | refine ⟨_, q_len_slice rfl rfl rfl rfl, ?_⟩ | refine ⟨_, q_quo rfl rfl rfl (by omega), ?_⟩ | refine ⟨_, q_rem rfl rfl rfl (by omega), ?_⟩)) | (refine gSC ?_; first | refine sc_mv rfl ?_ | refine sc_q rfl ?_ | refine sc_region ?_) | (refine gSQ ?_; first | refine sq_go rfl ?_ | refine sq_mv rfl ?_) | refine j_nil ?_ | ((first | refine j_guard rfl rfl rfl rfl rfl ?_ ?_ | refine sc_cond rfl ?_ ?_) <;> intro hc <;> (first | exact absurd hc (by decide) | ((try simp only [engHC] at hc) <;> first | (exfalso; omega) | skip))))
      refine sq_loop (i + 1, e, o ++ [z], v) ⟨by simp [hoi], by show e ≤ 1; omega, hr2⟩ (by show S.length - (i + 1) < S.length - i; omega) (by dsimp only; exact (by repeat (first | exact FSub.nil | refine FSub.cons rfl ?_ | refine FSub.conse rfl (by congr 1; omega) ?_))) ?_
      dsimp only
      rw [← hlast ((k : Int) % 10000) (by omega)]
      exact (by repeat (first | exact LSub.nil | refine LSub.cons (by repeat (first | exact Rem.here | apply Rem.there)) ?_))
theorem flatN_take (l : List Nat) (k : Nat) : (l.flatMap natC).take (k * 1) = (l.take k).flatMap natC := by
  have : ∀ l : List Nat, l.flatMap natC = l.map (fun x : Nat => Value.int .i64 (x : Int)) := by
    intro l
    induction l with
    | nil => rfl
    | cons x l ih => simp [ih]
  rw [this, this, List.map_take, Nat.mul_one]
theorem st_trim {w0 w : World} {hot : Nat → Prop} {L : List HA} {A : Option Addr} {c P : Nat} {o : List Nat} (hs : St w0 hot L w) (hin : InL L (.own (.slice A o.length c) 3 1 o.length (o.flatMap natC))) (hP : trimD o = dg P) :
    St w0 hot [haD (.slice A (dg P).length c) P] w := by
  have hs1 : St w0 hot [.own (.slice A o.length c) 3 1 o.length (o.flatMap natC)] w := ⟨hs.near, fun x hx => by rw [List.mem_singleton] at hx; subst hx; exact hs.at hin, List.pairwise_singleton _ _⟩
  have hsl := sl_own hs hin
  have hle := trimD_le o
  have htk := trimD_take o
  rw [hP] at hle htk
  cases A with
  | none =>
    have h0 := (hsl.nil rfl).1
    have ho : o = [] := List.length_eq_zero_iff.1 h0
    have hd : dg P = [] := by rw [htk, ho]; simp
    rw [ho] at hs1
    show St w0 hot [.own (.slice none (dg P).length c) 3 1 (dg P).length ((dg P).flatMap natC)] w
    rw [hd]
    exact hs1
  | some ad =>
    have h1 := take_own hs1 InL.here hle (L' := [.own (.slice (some ad) (dg P).length c) 3 1 (dg P).length ((o.flatMap natC).take ((dg P).length * 1))]) Upd.here
    rw [flatN_take, ← htk] at h1
    exact h1
theorem tmul (x y : Nat) (hx : x < 10000) (hy : y ≤ 10000) : ∃ m : Nat, x * y = m ∧ (x : Int) * (y : Int) = (m : Int) ∧ m ≤ 99990000 := by
  refine ⟨x * y, rfl, by rw [Int.natCast_mul], ?_⟩
  have := Nat.mul_le_mul (show x ≤ 9999 by omega) hy
  omega
set_option maxRecDepth 4000 in
set_option maxHeartbeats 8000000 in
theorem times_r (A : Option Addr) (c a y : Nat) (w : World) (hmax : (dg a).length ≤ 1000000) (hy : y ≤ 10000) (hA : SD w A c a) :
    Calls Tryz.prog 159 #[.slice A (dg a).length c, .int .i64 y] w fun e w' => ∃ v : Value, True ∧ e = .returned v ∧ St w Cold [haD v (a * y)] w' := by
  have ga := fun i (h : i < (dg a).length) => dg_get h
  have ta := fun i => dg_lt (n := a) (i := i)
  obtain ⟨hRa, -⟩ := hA
  obtain ⟨P, hP⟩ : ∃ P, a * y = P := ⟨_, rfl⟩
  obtain ⟨na, hna⟩ : ∃ na, (dg a).length = na := ⟨_, rfl⟩
  rw [hna] at ga ta hmax ⊢
  rw [hP]
  refine eng_start (n := 39) (args := [.slice A na c, .int .i64 y]) tab tab_ok fns fns_ok [.tmp 4] Tryz.func159 rfl rfl rfl rfl ?_
  repeat' (first | (refine gJ ?_; refine js rfl rfl rfl rfl ?_) | (refine gSC ?_; first | refine sc_mv rfl ?_ | refine sc_region ?_) | (refine gSQ ?_; refine sq_go rfl ?_) | refine j_nil ?_)
  refine sc_own_nil 3 1 ?_
  refine sc_loop (ι := Nat × Nat × List Nat × Value) (fun i => i.2.2.1.length = i.1 ∧ i.2.1 < 10000 ∧ inD i.2.2.1 ∧ vd i.2.2.1 + 10000 ^ i.1 * (a / 10000 ^ i.1 * y + i.2.1) = P ∧ (i.1 ≤ na ∨ i.1 = na + 1 ∧ i.2.1 = 0)) (fun i => 2 * (na + 1 - i.1) + (if i.2.1 = 0 then 0 else 1))
    (fun i => [(0, .slice A na c), (1, .int .i64 y), (5, i.2.2.2), (6, .int .i64 i.2.1), (7, .int .i64 i.1)]) (fun i => [.own i.2.2.2 3 1 i.1 (i.2.2.1.flatMap natC)]) (0, 0, [], .slice none 0 0)
    ⟨rfl, by show 0 < 10000; omega, fun x hx => (by cases hx), by simpa [vd] using hP, .inl (Nat.zero_le _)⟩ (by repeat (first | exact FSub.nil | refine FSub.cons rfl ?_ | refine FSub.conse rfl (by congr 1; omega) ?_)) (by repeat (first | exact LSub.nil | refine LSub.cons (by repeat (first | exact Rem.here | apply Rem.there)) ?_)) ?_
  rintro ⟨i, k, o, v0⟩ ⟨hoi, hk, hin, hr, him⟩
  dsimp only at hoi hk hin hr him ⊢
  subst hoi
  have ga := ga o.length
  have ta := ta o.length
  by_cases hstop : ¬ o.length < na ∧ k = 0
  · have hz : a / 10000 ^ o.length = 0 := by
      rcases Nat.eq_zero_or_pos (a / 10000 ^ o.length) with h | h
      · exact h
      · exact absurd (ta.2 h) hstop.1
    obtain ⟨z1, rfl⟩ := hstop
    rw [hz, Nat.zero_mul, Nat.add_zero, Nat.mul_zero, Nat.add_zero] at hr
    refine sc_owns (v := v0) (by (repeat constructor)) ?_
    rintro A2 c2 rfl hsl
    repeat' (first | (refine gJ ?_; first | refine js rfl rfl rfl rfl ?_ | (refine gcall rfl rfl ?_; (refine j_qc (f := 154) rfl rfl rfl rfl rfl rfl rfl ?_; refine ⟨_, (fun w' hs => trim_r A2 c2 o w' (by omega) hsl.le (rs_own (fun _ => rfl) hs (by (repeat constructor)) rfl rfl)), ?_⟩)) | (refine j_qe rfl rfl rfl ?_; refine ⟨_, q_len_slice rfl rfl rfl rfl, ?_⟩)) | (refine gSC ?_; first | refine sc_mv rfl ?_ | refine sc_q rfl ?_ | refine sc_region ?_) | (refine gSQ ?_; first | refine sq_go rfl ?_ | refine sq_mv rfl ?_ | refine sq_ende (by first | exact .inl rfl | exact .inr rfl) rfl rfl ⟨_, (RVs.cons (RV.tmp rfl) (RVs.nil)), ?_⟩) | refine j_nil ?_ | ((first | refine j_guard rfl rfl rfl rfl rfl ?_ ?_ | refine sc_cond rfl ?_ ?_) <;> intro hc <;> (first | exact absurd hc (by decide) | ((try simp only [engHC] at hc) <;> first | (exfalso; omega) | skip))))
    have hT : trimD o = dg P := by rw [trimD_dg o hin, hr]
    intro w' hS
    refine ⟨.slice A2 (dg P).length c2, trivial, by rw [← hT]; rfl, st_trim hS (by (repeat constructor)) hT⟩
  · by_cases h1 : o.length < na
    · obtain ⟨x, X, ex, lx, nx, mx⟩ := next_d a o.length
      rw [mx] at ga
      obtain ⟨ad, rfl, hX⟩ := hRa o.length x (ga h1)
      obtain ⟨m, em, em2, lm⟩ := tmul x y lx hy
      have hr2 := vd_times hr
      rw [mx, em, show a / 10000 ^ o.length / 10000 = X by omega, ← nx] at hr2
      clear mx ex nx hr
      repeat' (first | (refine gJ ?_; first | refine js rfl rfl rfl rfl ?_ | (refine gload rfl rfl ?_; refine j_qe rfl rfl rfl ?_; refine ⟨_, q_load_ext0 rfl rfl rfl rfl ⟨by assumption, (by first | exact id | assumption)⟩ (by rfl), ?_⟩) | refine jar rfl rfl rfl rfl rfl rfl rfl (by omega) ?_ | (refine gF ?_; first | (refine j_buildSlice rfl rfl rfl rfl rfl rfl rfl rfl rfl rfl rfl rfl ?_; intro b) | (refine j_append rfl rfl rfl rfl rfl rfl rfl rfl rfl rfl rfl (by (repeat constructor)) (by (repeat constructor)) (by rfl) (by rfl) (by omega) (fun _ => by (repeat constructor)) ?_; intro v)) | (refine j_qe rfl rfl rfl ?_; first | refine ⟨_, q_index_nat rfl rfl rfl rfl rfl (by omega), ?_⟩ | refine ⟨_, q_len_slice rfl rfl rfl rfl, ?_⟩ | refine ⟨_, q_quo rfl rfl rfl (by omega), ?_⟩ | refine ⟨_, q_rem rfl rfl rfl (by omega), ?_⟩)) | (refine gSC ?_; first | refine sc_mv rfl ?_ | refine sc_q rfl ?_ | refine sc_region ?_) | (refine gSQ ?_; first | refine sq_go rfl ?_ | refine sq_mv rfl ?_) | refine j_nil ?_ | ((first | refine j_guard rfl rfl rfl rfl rfl ?_ ?_ | refine sc_cond rfl ?_ ?_) <;> intro hc <;> (first | exact absurd hc (by decide) | ((try simp only [engHC] at hc) <;> first | (exfalso; omega) | skip))))
      refine sq_loop (o.length + 1, (k + m) / 10000, o ++ [(k + m) % 10000], v) ⟨by simp, by show (k + m) / 10000 < 10000; omega, fun z hz => by
        rcases List.mem_append.1 hz with hz | hz
        · exact hin z hz
        · rw [List.mem_singleton] at hz; omega, hr2, .inl (by show o.length + 1 ≤ na; omega)⟩ (by dsimp only; repeat' split <;> omega) (by dsimp only; exact (by repeat (first | exact FSub.nil | refine FSub.cons rfl ?_ | refine FSub.conse rfl (by congr 1; omega) ?_))) ?_
      dsimp only
      rw [← flatN_app o ((k + m) % 10000) (((k : Int) + x * y) % 10000) (by omega)]
      exact (by repeat (first | exact LSub.nil | refine LSub.cons (by repeat (first | exact Rem.here | apply Rem.there)) ?_))
    · have hz : a / 10000 ^ o.length = 0 := by
        rcases Nat.eq_zero_or_pos (a / 10000 ^ o.length) with h | h
        · exact h
        · exact absurd (ta.2 h) h1
      have hk0 : 0 < k := by omega
      have hr2 := vd_times hr
      rw [hz] at hr2
      have e0 : a / 10000 ^ (o.length + 1) = 0 := by rw [div_next, hz]
      have hr3 : vd (o ++ [k]) + 10000 ^ (o.length + 1) * (a / 10000 ^ (o.length + 1) * y + 0) = P := by
        rw [e0, ← hr2]
        simp only [Nat.zero_mod, Nat.zero_mul, Nat.add_zero, Nat.zero_div, Nat.mod_eq_of_lt hk, Nat.div_eq_of_lt hk, Nat.zero_add]
      clear hr2 hr e0 hz
      repeat' (first | (refine gJ ?_; first | refine js rfl rfl rfl rfl ?_ | refine jar rfl rfl rfl rfl rfl rfl rfl (by omega) ?_ | (refine gF ?_; first | (refine j_buildSlice rfl rfl rfl rfl rfl rfl rfl rfl rfl rfl rfl rfl ?_; intro b) | (refine j_append rfl rfl rfl rfl rfl rfl rfl rfl rfl rfl rfl (by (repeat constructor)) (by (repeat constructor)) (by rfl) (by rfl) (by omega) (fun _ => by (repeat constructor)) ?_; intro v)) | (refine j_qe rfl rfl rfl ?_; first | refine ⟨_, q_len_slice rfl rfl rfl rfl, ?_⟩ | refine ⟨_, q_quo rfl rfl rfl (by omega), ?_⟩ | refine ⟨_, q_rem rfl rfl rfl (by omega), ?_⟩)) | (refine gSC ?_; first | refine sc_mv rfl ?_ | refine sc_q rfl ?_ | refine sc_region ?_) | (refine gSQ ?_; first | refine sq_go rfl ?_ | refine sq_mv rfl ?_) | refine j_nil ?_ | ((first | refine j_guard rfl rfl rfl rfl rfl ?_ ?_ | refine sc_cond rfl ?_ ?_) <;> intro hc <;> (first | exact absurd hc (by decide) | ((try simp only [engHC] at hc) <;> first | (exfalso; omega) | skip))))
      refine sq_loop (o.length + 1, 0, o ++ [k], v) ⟨by simp, by show 0 < 10000; omega, fun z hz => by
        rcases List.mem_append.1 hz with hz | hz
        · exact hin z hz
        · rw [List.mem_singleton] at hz; omega, hr3, .inr ⟨by show o.length + 1 = na + 1; omega, rfl⟩⟩ (by dsimp only; repeat' split <;> omega) (by dsimp only; exact (by repeat (first | exact FSub.nil | refine FSub.cons rfl ?_ | refine FSub.conse rfl (by congr 1; omega) ?_))) ?_
      dsimp only
      rw [← flatN_app o k ((k : Int) % 10000) (by omega)]
      exact (by repeat (first | exact LSub.nil | refine LSub.cons (by repeat (first | exact Rem.here | apply Rem.there)) ?_))
end Go.Proofs.YtmakokbpadmfbaaGreat

