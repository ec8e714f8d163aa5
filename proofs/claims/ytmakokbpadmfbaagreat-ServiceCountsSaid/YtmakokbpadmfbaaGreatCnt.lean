/-
  ServiceCounts.
-/
import Derived.Test.YtmakokbpadmfbaaGreatPrv
namespace Go.Proofs.YtmakokbpadmfbaaGreat
open Go.RowKit Eng
set_option linter.unusedVariables false
set_option linter.unusedSimpArgs false
set_option maxHeartbeats 8000000
attribute [local irreducible] SC SQ J Qt Calls Iterates LSub FSub
def cntL (K : List Lane) (s : List Sn) : Nat := (K.map fun k => s.countP fun x => decide (ofM x = k)).sum
theorem cntL_snoc (K : List Lane) (s : List Sn) (k : Lane) : cntL (K ++ [k]) s = cntL K s + s.countP fun x => decide (ofM x = k) := by unfold cntL; simp
theorem cntL_cons (K : List Lane) (s : List Sn) (k : Lane) : cntL (k :: K) s = (s.countP fun x => decide (ofM x = k)) + cntL K s := by unfold cntL; simp
theorem cntL_le (K : List Lane) (s : List Sn) : cntL K s ≤ K.length * s.length := by
  induction K with
  | nil => simp [cntL]
  | cons c C ih =>
    rw [cntL_cons, List.length_cons, Nat.succ_mul]
    have := List.countP_le_length (p := fun x => decide (ofM x = c)) (l := s)
    omega
theorem cntL_all {K : List Lane} {s : List Sn} (hn : K.Nodup) (h : ∀ x ∈ s, ofM x ∈ K) : cntL K s = s.length := by
  have e : cntL K s = s.countP fun x => decide (ofM x ∈ K) := by
    clear h
    induction K with
    | nil => simp [cntL]
    | cons c C ih =>
      rw [List.nodup_cons] at hn
      rw [cntL_cons, ih hn.2]
      clear ih
      induction s with
      | nil => rfl
      | cons p P ihP =>
        simp only [List.countP_cons, decide_eq_true_eq, List.mem_cons] at ihP ⊢
        rw [← ihP]
        by_cases h1 : ofM p = c
        · have h2 : ¬ ofM p ∈ C := fun he => hn.1 (h1 ▸ he)
          rw [if_pos h1, if_neg h2, if_pos (Or.inl h1)]
          omega
        · by_cases h2 : ofM p ∈ C
          · rw [if_neg h1, if_pos h2, if_pos (Or.inr h2)]
            omega
          · rw [if_neg h1, if_neg h2, if_neg (fun h => h.elim h1 h2)]
            omega
  rw [e, List.countP_eq_length]
  exact fun p hp => decide_eq_true (h p hp)
/-- Where several ways come to one place: the rest is walked once. -/
theorem sc_join {α : Type} {C : Cx} {c : Code} {K : List KI} (F' : α → Fr) (L' : α → List HA) {G : Prop} (body : ∀ x, SC C c K (F' x) (L' x)) (main : (∀ x, SC C c K (F' x) (L' x)) → G) : G := main body
/-- What the law says of a row's bounds. -/
theorem near_bounds {n k a : Nat} (hk : k ≤ n) (hn : n ≤ 100) (ha : a ≤ 2000) :
    (lowF n k a : Int) ≤ 10000 - (lowF n (n - k) a : Int) ∧ (0 < n → ((lowF n k a : Int) - 1) * n < 10000 * k ∧ 10000 * (k : Int) < (10000 - (lowF n (n - k) a : Int) + 1) * n) ∧
    (-100 ≤ ((lowF n k a : Int) - 1) * n ∧ ((lowF n k a : Int) - 1) * n ≤ 2000000) ∧ (0 ≤ (10000 - (lowF n (n - k) a : Int) + 1) * n ∧ (10000 - (lowF n (n - k) a : Int) + 1) * n ≤ 2000000) := by
  have hlh := low_high (n := n) (k := k) (a := a) hk hn ha
  have hL := lowF_le n k a
  have hR := lowF_le n (n - k) a
  have y1 : 0 < n → 0 < lowF n k a → (lowF n k a - 1) * n < 10000 * k := fun h0 h => low_near (a := a) hk h0 hn ha (by omega)
  have y2 : 0 < n → 0 < lowF n (n - k) a → (lowF n (n - k) a - 1) * n < 10000 * (n - k) := fun h0 h => low_near (a := a) (by omega) h0 hn ha (by omega)
  generalize lowF n k a = L at *
  generalize lowF n (n - k) a = R at *
  have z1 : 0 < n → ((L : Int) - 1) * n < 10000 * k := fun h0 => by
    rcases Nat.eq_zero_or_pos L with h | h
    · subst h
      have : ((0 : Nat) - 1 : Int) * n = -(n : Int) := by
        show (-1 : Int) * n = -(n : Int)
        omega
      omega
    · have h1 := y1 h0 h
      have e : ((L : Int) - 1) * n = (((L - 1) * n : Nat) : Int) := by rw [Int.natCast_mul, Int.natCast_sub h]; rfl
      rw [e]
      omega
  have z2 : 0 < n → 10000 * (k : Int) < ((10000 : Int) - R + 1) * n := fun h0 => by
    have e0 : ((10000 : Int) - R + 1) * n = 10000 * n + (1 - (R : Int)) * n := by
      rw [← Int.add_mul]
      congr 1
      omega
    rw [e0]
    rcases Nat.eq_zero_or_pos R with h | h
    · subst h
      have : (1 - ((0 : Nat) : Int)) * n = n := by
        show (1 : Int) * n = n
        omega
      omega
    · have h1 := y2 h0 h
      have e : (1 - (R : Int)) * n = -(((R - 1) * n : Nat) : Int) := by
        rw [Int.natCast_mul, Int.natCast_sub h, ← Int.neg_mul]
        congr 1
        show 1 - (R : Int) = -((R : Int) - 1)
        omega
      rw [e]
      omega
  refine ⟨by omega, fun h => ⟨z1 h, z2 h⟩, ?_, ?_⟩
  · rcases Nat.eq_zero_or_pos n with h | h
    · subst h
      simp
    · have := z1 h
      refine ⟨?_, by omega⟩
      have h2 : (-1 : Int) * n ≤ ((L : Int) - 1) * n := Int.mul_le_mul_of_nonneg_right (by omega) (by omega)
      omega
  · have h2 : ((10000 : Int) - R + 1) * n ≤ 10001 * n := Int.mul_le_mul_of_nonneg_right (by omega) (by omega)
    refine ⟨Int.mul_nonneg (by omega) (by omega), by omega⟩
set_option maxRecDepth 8000 in
set_option maxHeartbeats 16000000 in
theorem Counts_c (A : Option Addr) (c : Nat) (l0 : List Th) (a z : Int) (w : World) (hsl : Sl A l0.length c) (hR : RS w 4 thC A l0) (hok : ∀ x ∈ l0, thOk x) (ha : inI a) (hz : inI z) :
    Calls Tryz.prog 6 #[.slice A l0.length c, .int .i64 a, .int .i64 z] w fun e w' => e = .returned (.bool true) ∧ Below w.heap.size w w' := by
  obtain ⟨N, hN⟩ : ∃ N : Nat, N = min l0.length 100 := ⟨_, rfl⟩
  have hN2 : (if (100 : Int) < l0.length then (100 : Int) else l0.length) = (N : Int) := by split <;> omega
  have hR2 := RS.take hR N
  have hok2 : ∀ x ∈ l0.take N, thOk x := fun x hx => hok x (List.mem_of_mem_take hx)
  have hlen : (l0.take N).length = N := by rw [List.length_take]; omega
  generalize hl : l0.take N = l at *
  have hmk := fun w' h => made_c A c l w' (by omega) hok2 h
  have hmo := (made_ok hok2)
  have hml := made_len l
  generalize madeF l = s at *
  have hta := fun w' => time_c a w' ha
  have ha1 : timeI (a % 40000) := ⟨Int.emod_nonneg _ (by omega), by have := Int.emod_lt_of_pos a (show (0 : Int) < 40000 by omega); omega⟩
  generalize a % 40000 = now at *
  have hp3 := fun w' => pick_c z 2000 w' hz (by omega)
  have hz2 : 0 ≤ z % 2000 ∧ z % 2000 < 2000 := ⟨Int.emod_nonneg _ (by omega), Int.emod_lt_of_pos _ (by omega)⟩
  obtain ⟨rk, hrk⟩ : ∃ r : Nat, 1 + z % 2000 = (r : Int) := ⟨(1 + z % 2000).toNat, by omega⟩
  have hrk2 : 1 ≤ rk ∧ rk ≤ 2000 := by omega
  generalize z % 2000 = z9 at *
  have hs100 : s.length ≤ 100 := by omega
  have hM := fun A c B bc w' h h2 => Measure_c A c std4 B bc s now rk w' (by simp [std4]) (by omega) h h2
  rw [ms_right std4_ok hmo.1 ha1 (by omega) (by omega)] at hM
  dsimp only at hM
  have hKn : (sortL (lanesO (of := ofM) s)).Nodup := (sortL_perm _).nodup_iff.2 (lanesO_nodup s)
  have hKl := sortL_lt (lanesO_nodup (of := ofM) s)
  have hall := cntL_all hKn (fun x hx => sortL_memO.2 ⟨x, hx, rfl⟩)
  have hPl := rows_len (of := ofM) (l := std4) (s := s) (now := now) (risk := rk)
  have hPK : ∀ i k, (sortL (lanesO (of := ofM) s))[i]? = some k → (msRows ofM std4 s now rk)[i]? = some (rowF ofM std4 s now rk k) := fun i k h => by rw [msRows_eq, List.getElem?_map, h]; rfl
  have hKP : (sortL (lanesO (of := ofM) s)).length = (msRows ofM std4 s now rk).length := by rw [msRows_eq, List.length_map]
  have hout := fun x => outF_range std4 x now
  have hrow := fun k => rowF_eq (l := std4) (s := s) (now := now) (risk := rk) ofM k
  generalize rowF ofM std4 s now rk = RF at *
  generalize msRows ofM std4 s now rk = P at *
  generalize sortL (lanesO (of := ofM) s) = K at *
  have hjud : ∀ x ∈ s, judF std4 x now = (outF std4 x now, 0) := fun x hx => judF_ok std4_ok (hmo.2 x hx).1 ha1
  have hJ : ∀ x ∈ s, ∀ A c w', RS w' 4 sdC A std4 → Calls Tryz.prog 21 #[.slice A std4.length c, snV x, .int .i64 now] w' fun e w'' => e = .returned (.tuple #[.int .u8 (outF std4 x now), .int .i64 0]) ∧ Below w'.heap.size w' w'' := fun x hx A c w' h => by
    have := Judge_c A c std4 x now w' (by simp [std4]) (by have := (hmo.2 x hx).1; unfold okSn at this; omega) h
    rw [hjud x hx] at this
    exact this
  generalize hog : (fun x => outF std4 x now) = out at *
  have hog2 : ∀ x, outF std4 x now = out x := fun x => by rw [← hog]
  simp only [hog2] at hJ hout
  obtain ⟨np, hnp⟩ : ∃ n, n = P.length := ⟨_, rfl⟩
  rw [← hnp] at hM hPl hKP
  obtain ⟨ns, hns⟩ : ∃ n, n = s.length := ⟨_, rfl⟩
  rw [← hrk] at hM
  refine eng_start (n := 249) (args := [.slice A l0.length c, .int .i64 a, .int .i64 z]) tab tab_ok fns fns_ok [.tmp 6] Tryz.func6 rfl rfl rfl rfl ?_
  repeat' (first | (refine gJ ?_; first | refine js rfl rfl rfl rfl ?_ | refine jar rfl rfl rfl rfl rfl rfl rfl (by omega) ?_ | (refine gcall rfl rfl ?_; first | (refine j_qc (f := 13) rfl rfl rfl rfl rfl rfl rfl ?_; refine ⟨_, (fun w' _ => awake_c w'), ?_⟩) | (refine j_qc (f := 15) rfl rfl rfl rfl rfl rfl rfl ?_; refine ⟨_, (fun w' _ => hta w'), ?_⟩) | (refine j_qc (f := 16) rfl rfl rfl rfl rfl rfl rfl ?_; refine ⟨_, (fun w' _ => hp3 w'), ?_⟩)) | (refine gcall rfl rfl ?_; refine gF ?_; refine j_callN (f := 14) rfl rfl rfl rfl rfl rfl rfl (fun x : Value × Value => .tuple #[x.1, x.2]) (fun _ => True) (fun x => [.own x.1 43 4 4 (std4.flatMap sdC), .own x.2 45 6 s.length (s.flatMap snC)]) (fun w' hs => hlen ▸ hmk w' (hR2.st hs)) (fun _ => trivial) ?_; rintro ⟨v1, v2⟩ _; refine j_owns (v := v1) (by (repeat constructor)) ?_; rintro a1 c1 rfl hs1; refine j_owns (v := v2) (by (repeat constructor)) ?_; rintro a2 c2 rfl hs2) | (refine j_qe rfl rfl rfl ?_; refine ⟨_, q_minr rfl rfl rfl hN2, ?_⟩) | (refine j_qe rfl rfl rfl ?_; refine ⟨_, q_sliceHi N rfl rfl rfl rfl rfl (by have := hsl.le; omega), ?_⟩) | (refine gcall rfl rfl ?_; refine gF ?_; refine j_callN (f := 17) rfl rfl rfl rfl rfl rfl rfl (fun v => .tuple #[v, .int .i64 0]) (fun _ => True) (fun v => [.own v 35 9 np (P.flatMap rwC)]) (fun w' hs => hM a1 c1 a2 c2 w' (rs_own (f := sdC) (fun _ => rfl) hs (by (repeat constructor)) rfl rfl) (rs_own (f := snC) (l := s) (fun _ => rfl) hs (by (repeat constructor)) rfl rfl)) (fun _ => trivial) ?_; rintro v3 _; refine j_owns (v := v3) (by (repeat constructor)) ?_; rintro a3 c3 rfl hs3) | (refine j_qe rfl rfl rfl ?_; refine ⟨_, q_len_slice rfl rfl rfl rfl, ?_⟩)) | (refine gSC ?_; first | refine sc_mv rfl ?_ | refine sc_q rfl ?_ | refine sc_region ?_) | (refine gSQ ?_; refine sq_go rfl ?_) | refine j_nil ?_ | ((refine sc_cond rfl ?_ ?_) <;> intro hc <;> (first | exact absurd hc (by decide) | ((try simp only [engHC] at hc) <;> skip))))
  rw [← hns] at hs2 ⊢
  refine sc_loop (ι := Nat) (fun i => i ≤ np) (fun i => np - i) (fun i => [(7, .slice a1 4 c1), (8, .slice a2 ns c2), (9, .int .i64 now), (11, .slice a3 np c3), (10, .int .i64 (1 + z9)), (13, .int .i64 (cntL (K.take i) s : Nat)), (52, .slice a3 np c3), (53, .int .i64 np), (54, .int .i64 i)]) (fun i => [.own (.slice a3 np c3) 35 9 np (P.flatMap rwC), .own (.slice a2 ns c2) 45 6 ns (s.flatMap snC), .own (.slice a1 4 c1) 43 4 4 (std4.flatMap sdC)]) 0 (Nat.zero_le _) (by (try dsimp only); exact (by repeat (first | exact FSub.nil | refine FSub.cons rfl ?_ | refine FSub.conse rfl (by congr 1; omega) ?_))) (by repeat (first | exact LSub.refl | refine LSub.cons (by repeat (first | exact Rem.here | apply Rem.there)) ?_ | apply LSub.skip)) ?_
  intro i hi
  dsimp only at hi ⊢
  by_cases hlt2 : i < np
  · obtain ⟨k, hk⟩ : ∃ k, K[i]? = some k := ⟨_, List.getElem?_eq_getElem (by omega)⟩
    have hp := hPK i k hk
    rw [hrow] at hp
    have hrs := nOf_sum (of := ofM) hout s k
    have hcl : s.countP (fun x => decide (ofM x = k)) ≤ s.length := List.countP_le_length
    obtain ⟨T, hT⟩ : ∃ T, T = nOf ofM out s k 2 + nOf ofM out s k 3 := ⟨_, rfl⟩
    have hT2 : ((nOf ofM out s k 2 : Int) + nOf ofM out s k 3) = (T : Int) := by omega
    have hcn : cntL (K.take (i + 1)) s = cntL (K.take i) s + s.countP fun x => decide (ofM x = k) := by rw [take_snocS hk, cntL_snoc]
    have hcle := cntL_le (K.take i) s
    have hcle2 : (K.take i).length * s.length ≤ 10000 := Nat.mul_le_mul (show (K.take i).length ≤ 100 by rw [List.length_take]; omega) (show s.length ≤ 100 by omega)
    have hnb := near_bounds (n := T) (k := nOf ofM out s k 2) (a := rk) (by omega) (by omega) hrk2.2
    have hle := fun w' => least_c T (nOf ofM out s k 2) rk w' (by omega) (by omega) hrk2
    have hgr := fun w' => greatest_c T (nOf ofM out s k 2) rk w' (by omega) (by omega) hrk2
    have hLR1 := lowF_le T (nOf ofM out s k 2) rk
    have hLR2 := lowF_le T (T - nOf ofM out s k 2) rk
    rw [hT2] at hp
    simp only [bndR, Int.toNat_natCast] at hp
    rw [← hrk] at hle hgr
    generalize lowF T (nOf ofM out s k 2) rk = L at *
    generalize lowF T (T - nOf ofM out s k 2) rk = R at *
    obtain ⟨p, hp, ecl, efr, eto, etr, ekp, eop, eot, ele, egr⟩ : ∃ p, P[i]? = some p ∧ p.cl = k.cl ∧ p.fr = k.fr ∧ p.to = k.to ∧ (T : Int) = p.tr ∧ (nOf ofM out s k 2 : Int) = p.kp ∧ p.op = nOf ofM out s k 1 ∧ p.ot = nOf ofM out s k 4 ∧ p.le = L ∧ p.gr = 10000 - (R : Int) := ⟨_, hp, rfl, rfl, rfl, rfl, rfl, rfl, rfl, rfl, rfl⟩
    rw [etr, ekp] at hle hgr hnb
    have hn3 : (nOf ofM out s k 3 : Int) = p.tr - p.kp := by omega
    have hn0 : 0 < T ↔ 0 < p.tr := by omega
    rw [hn0] at hnb
    obtain ⟨a3, rfl⟩ : ∃ ad, a3 = some ad := by
      cases a3 with
      | none => have := hs3.nil rfl; omega
      | some ad => exact ⟨ad, rfl⟩
    generalize cntL (K.take i) s = mt at *
    have hbef : 0 < i → ∃ p0, P[i - 1]? = some p0 ∧ (p0.cl < k.cl ∨ (p0.cl = k.cl ∧ (p0.fr < k.fr ∨ (p0.fr = k.fr ∧ p0.to < k.to)))) := fun h0 => by
      obtain ⟨q0, hq0⟩ : ∃ q0, K[i - 1]? = some q0 := ⟨_, List.getElem?_eq_getElem (by omega)⟩
      refine ⟨RF q0, hPK _ _ hq0, ?_⟩
      obtain ⟨z1, hz1⟩ := List.getElem?_eq_some_iff.1 hq0
      obtain ⟨z2, hz2⟩ := List.getElem?_eq_some_iff.1 hk
      have := List.pairwise_iff_getElem.1 hKl (i - 1) i z1 z2 (by omega)
      rw [hz1, hz2] at this
      rw [hrow]
      exact this
    have hwas : i = 0 ∨ 0 < i := by omega
    obtain ⟨p0, hp0⟩ : ∃ p0, (0 : Int) < i → P[((i : Int) - 1).toNat]? = some p0 ∧ (p0.cl < k.cl ∨ (p0.cl = k.cl ∧ (p0.fr < k.fr ∨ (p0.fr = k.fr ∧ p0.to < k.to)))) := by
      rcases hwas with h0 | h0
      · exact ⟨p, fun h => absurd h (by omega)⟩
      · obtain ⟨q, h⟩ := hbef h0
        exact ⟨q, fun _ => by rw [show ((i : Int) - 1).toNat = i - 1 by omega]; exact h⟩
    clear hwas hbef
    apply sc_join (α := Nat × Nat) (fun x => [(7, .slice a1 4 c1), (8, .slice a2 ns c2), (9, .int .i64 now), (11, .slice (some a3) np c3), (10, .int .i64 (1 + z9)), (13, .int .i64 (mt : Nat)), (52, .slice (some a3) np c3), (53, .int .i64 np), (54, .int .i64 i), (14, .int .i64 i), (15, .pointer (some ⟨x.1, 0, none⟩)), (17, .pointer (some ⟨x.2, 0, none⟩)), (99, .slice a2 ns c2), (100, .int .i64 ns), (101, .int .i64 (0 : Nat))]) (fun x => [.cells x.2 52 [.int .i64 0, .int .i64 (0 : Nat), .int .i64 (0 : Nat), .int .i64 (0 : Nat), .int .i64 (0 : Nat)], .cells x.1 35 (rwC p), .own (.slice (some a3) np c3) 35 9 np (P.flatMap rwC), .own (.slice a2 ns c2) 45 6 ns (s.flatMap snC), .own (.slice a1 4 c1) 43 4 4 (std4.flatMap sdC)])
    case main =>
      intro key
      repeat' (first | (refine gJ ?_; first | refine js rfl rfl rfl rfl ?_ | refine jar rfl rfl rfl rfl rfl rfl rfl (by omega) ?_ | (refine gF ?_; refine j_alloc (t := 52) rfl rfl rfl rfl rfl ?_; intro bg) | (refine gF ?_; refine j_alloc rfl rfl rfl rfl rfl ?_; intro br) | (refine j_qe rfl rfl rfl ?_; refine ⟨_, q_index_at i rfl rfl rfl rfl rfl (by omega), ?_⟩) | (refine j_qe rfl rfl rfl ?_; refine ⟨_, q_rowA (f := rwC) (l := P) (i := i) rfl rfl rfl rfl (by (repeat constructor)) (fun _ => rfl) hp rfl, ?_⟩) | (refine gF ?_; refine j_store rfl rfl rfl rfl rfl rfl rfl rfl (by (repeat constructor)) (by rfl) ?_) | (refine j_qe rfl rfl rfl ?_; first | refine ⟨_, q_index_slice rfl rfl rfl rfl rfl (by omega), ?_⟩ | refine ⟨_, q_len_slice rfl rfl rfl rfl, ?_⟩)) | (refine gSC ?_; first | refine sc_mv rfl ?_ | refine sc_q rfl ?_ | refine sc_region ?_) | (refine gSQ ?_; refine sq_go rfl ?_) | refine j_nil ?_ | ((refine sc_cond rfl ?_ ?_) <;> intro hc <;> (((try simp only [engHC] at hc) <;> first | (exfalso; omega) | skip))))
      all_goals
        repeat' (first | (refine gJ ?_; first | refine js rfl rfl rfl rfl ?_ | (refine gload rfl rfl ?_; refine j_qe rfl rfl rfl ?_; refine ⟨_, q_load_own rfl rfl rfl rfl (by (repeat constructor)) (by first | rfl | assumption), ?_⟩) | refine jfield rfl rfl rfl rfl rfl rfl rfl rfl ?_ | (refine gF ?_; refine j_alloc (t := 52) rfl rfl rfl rfl rfl ?_; intro bg) | (refine gF ?_; refine j_alloc rfl rfl rfl rfl rfl ?_; intro bo) | (refine j_qe rfl rfl rfl ?_; refine ⟨_, q_rowA (f := rwC) (l := P) (i := ((i : Int) - 1).toNat) rfl rfl rfl rfl (by (repeat constructor)) (fun _ => rfl) (hp0 (by omega)).1 rfl, ?_⟩) | (refine gF ?_; refine j_store rfl rfl rfl rfl rfl rfl rfl rfl (by (repeat constructor)) (by rfl) ?_) | (refine j_qe rfl rfl rfl ?_; refine ⟨_, q_len_slice rfl rfl rfl rfl, ?_⟩) | refine j_guard_undef rfl rfl rfl rfl rfl ?_) | (refine gSC ?_; first | refine sc_mv rfl ?_ | refine sc_q rfl ?_ | refine sc_region ?_) | (refine gSQ ?_; refine sq_go rfl ?_) | refine j_nil ?_ | ((first | refine j_guard rfl rfl rfl rfl rfl ?_ ?_ | refine sc_cond rfl ?_ ?_) <;> intro hc <;> (first | exact absurd hc (by decide) | ((try simp only [engHC] at hc) <;> first | (exfalso; omega) | skip))))
      all_goals try (exfalso; have := (hp0 (by omega)).2; omega)
      all_goals exact sc_sub (key (br, bg)) (by (try dsimp only); exact (by repeat (first | exact FSub.nil | refine FSub.cons rfl ?_ | refine FSub.conse rfl (by congr 1; omega) ?_))) (by repeat (first | exact LSub.refl | refine LSub.cons (by repeat (first | exact Rem.here | apply Rem.there)) ?_ | apply LSub.skip))
    case body =>
      rintro ⟨br, bg⟩
      refine sc_loop (ι := Nat) (fun j => j ≤ ns) (fun j => ns - j) (fun j => [(7, .slice a1 4 c1), (8, .slice a2 ns c2), (9, .int .i64 now), (11, .slice (some a3) np c3), (10, .int .i64 (1 + z9)), (13, .int .i64 (mt + (s.take j).countP fun x => decide (ofM x = k) : Nat)), (52, .slice (some a3) np c3), (53, .int .i64 np), (54, .int .i64 i), (14, .int .i64 i), (15, .pointer (some ⟨br, 0, none⟩)), (17, .pointer (some ⟨bg, 0, none⟩)), (99, .slice a2 ns c2), (100, .int .i64 ns), (101, .int .i64 j)]) (fun j => [.cells bg 52 [.int .i64 0, .int .i64 (nOf ofM out (s.take j) k 1 : Nat), .int .i64 (nOf ofM out (s.take j) k 2 : Nat), .int .i64 (nOf ofM out (s.take j) k 3 : Nat), .int .i64 (nOf ofM out (s.take j) k 4 : Nat)], .cells br 35 (rwC p), .own (.slice (some a3) np c3) 35 9 np (P.flatMap rwC), .own (.slice a2 ns c2) 45 6 ns (s.flatMap snC), .own (.slice a1 4 c1) 43 4 4 (std4.flatMap sdC)]) 0 (Nat.zero_le _) (by (try dsimp only); exact (by repeat (first | exact FSub.nil | refine FSub.cons rfl ?_ | refine FSub.conse rfl (by congr 1; omega) ?_))) (by repeat (first | exact LSub.refl | refine LSub.cons (by repeat (first | exact Rem.here | apply Rem.there)) ?_ | apply LSub.skip)) ?_
      intro j hj
      dsimp only at hj ⊢
      by_cases hj2 : j < ns
      · obtain ⟨x, hx⟩ : ∃ x, s[j]? = some x := ⟨_, List.getElem?_eq_getElem (by omega)⟩
        have hT : s.take (j + 1) = s.take j ++ [x] := take_snocS hx
        have hJx := fun w' => hJ x (List.mem_of_getElem? hx) a1 c1 w'
        have hn1 := nOf_snoc (of := ofM) (out := out) (s.take j) x k 1
        have hn2 := nOf_snoc (of := ofM) (out := out) (s.take j) x k 2
        have hn3' := nOf_snoc (of := ofM) (out := out) (s.take j) x k 3
        have hn4 := nOf_snoc (of := ofM) (out := out) (s.take j) x k 4
        have hn3 := hn3'
        clear hn3'
        have hcj : (s.take (j + 1)).countP (fun x => decide (ofM x = k)) = (s.take j).countP (fun x => decide (ofM x = k)) + if ofM x = k then 1 else 0 := by
          rw [hT, List.countP_append]
          congr 1
          simp
        rw [← hT] at hn1 hn2 hn3 hn4
        have hb := nOf_sum (of := ofM) hout (s.take j) k
        have hb2 : (s.take j).countP (fun x => decide (ofM x = k)) ≤ (s.take j).length := List.countP_le_length
        have hb3 : (s.take j).length ≤ 100 := by rw [List.length_take]; omega
        have hlk := lane_eq (ofM x) k
        rw [show (ofM x).cl = x.cl from rfl, show (ofM x).fr = x.fr from rfl, show (ofM x).to = x.to from rfl] at hlk
        generalize nOf ofM out (s.take j) k 1 = m1 at *
        generalize nOf ofM out (s.take j) k 2 = m2 at *
        generalize nOf ofM out (s.take j) k 3 = m3 at *
        generalize nOf ofM out (s.take j) k 4 = m4 at *
        generalize (s.take j).countP (fun x => decide (ofM x = k)) = cj at *
        obtain ⟨a2, rfl⟩ : ∃ ad, a2 = some ad := by
          cases a2 with
          | none => have := hs2.nil rfl; omega
          | some ad => exact ⟨ad, rfl⟩
        by_cases hxk : ofM x = k
        · have hf := hlk.1 hxk
          rw [if_pos hxk] at hcj
          rcases hout x with ho | ho | ho | ho
          all_goals
            rw [ho] at hJx hn1 hn2 hn3 hn4
            simp only [hxk, true_and, if_true, if_false, Nat.add_zero, show ¬ (1 : Int) = 2 by decide, show ¬ (1 : Int) = 3 by decide, show ¬ (1 : Int) = 4 by decide, show ¬ (2 : Int) = 1 by decide, show ¬ (2 : Int) = 3 by decide, show ¬ (2 : Int) = 4 by decide, show ¬ (3 : Int) = 1 by decide, show ¬ (3 : Int) = 2 by decide, show ¬ (3 : Int) = 4 by decide, show ¬ (4 : Int) = 1 by decide, show ¬ (4 : Int) = 2 by decide, show ¬ (4 : Int) = 3 by decide] at hn1 hn2 hn3 hn4
            repeat' (first | (refine gJ ?_; first | refine js rfl rfl rfl rfl ?_ | (refine gload rfl rfl ?_; refine j_qe rfl rfl rfl ?_; first | refine ⟨_, q_load_own rfl rfl rfl rfl (by (repeat constructor)) (by first | rfl | assumption), ?_⟩ | refine ⟨_, q_loadA_own rfl rfl rfl rfl (by (repeat constructor)) (by rfl), ?_⟩) | refine jfield rfl rfl rfl rfl rfl rfl rfl rfl ?_ | refine jar rfl rfl rfl rfl rfl rfl rfl (by omega) ?_ | (refine gcall rfl rfl ?_; (refine j_qc (f := 21) rfl rfl rfl rfl rfl rfl rfl ?_; refine ⟨_, (fun w' hs => hJx w' (rs_own (f := sdC) (fun _ => rfl) hs (by (repeat constructor)) rfl rfl)), ?_⟩)) | (refine gF ?_; refine j_alloc rfl rfl rfl rfl rfl ?_; intro bx) | (refine j_qe rfl rfl rfl ?_; refine ⟨_, q_rowA (f := snC) (l := s) (i := j) rfl rfl rfl rfl (by (repeat constructor)) (fun _ => rfl) hx rfl, ?_⟩) | (refine gF ?_; refine j_store rfl rfl rfl rfl rfl rfl rfl rfl (by (repeat constructor)) (by rfl) ?_) | (refine j_qe rfl rfl rfl ?_; first | refine ⟨_, q_index_nat rfl rfl rfl rfl rfl (by omega), ?_⟩ | refine ⟨_, q_index_arr rfl rfl rfl rfl rfl (by omega), ?_⟩)) | (refine gSC ?_; first | refine sc_mv rfl ?_ | refine sc_q rfl ?_ | refine sc_region ?_) | (refine gSQ ?_; first | refine sq_go rfl ?_ | refine sq_mv rfl ?_) | refine j_nil ?_ | ((first | refine j_guard rfl rfl rfl rfl rfl ?_ ?_ | refine sc_cond rfl ?_ ?_) <;> intro hc <;> (first | exact absurd hc (by decide) | ((try simp only [engHC] at hc) <;> first | (exfalso; omega) | skip))))
          all_goals
            refine sq_loop (j + 1) ?_ ?_ ?_ ?_
            · show j + 1 ≤ ns; omega
            · show ns - (j + 1) < ns - j; omega
            · rw [hcj]; exact (by (try dsimp only); exact (by repeat (first | exact FSub.nil | refine FSub.cons rfl ?_ | refine FSub.conse rfl (by congr 1; omega) ?_)))
            · rw [hn1, hn2, hn3, hn4]; exact (by repeat (first | exact LSub.refl | refine LSub.cons (by repeat (first | exact Rem.here | apply Rem.there)) ?_ | apply LSub.skip))
        · rw [if_neg hxk] at hcj
          simp only [hxk, false_and, if_false, Nat.add_zero] at hn1 hn2 hn3 hn4
          rw [hlk] at hxk
          repeat' (first | (refine gJ ?_; first | refine js rfl rfl rfl rfl ?_ | (refine gload rfl rfl ?_; refine j_qe rfl rfl rfl ?_; refine ⟨_, q_load_own rfl rfl rfl rfl (by (repeat constructor)) (by first | rfl | assumption), ?_⟩) | refine jfield rfl rfl rfl rfl rfl rfl rfl rfl ?_ | refine jar rfl rfl rfl rfl rfl rfl rfl (by omega) ?_ | (refine gF ?_; refine j_alloc rfl rfl rfl rfl rfl ?_; intro bx) | (refine j_qe rfl rfl rfl ?_; refine ⟨_, q_rowA (f := snC) (l := s) (i := j) rfl rfl rfl rfl (by (repeat constructor)) (fun _ => rfl) hx rfl, ?_⟩) | (refine gF ?_; refine j_store rfl rfl rfl rfl rfl rfl rfl rfl (by (repeat constructor)) (by rfl) ?_) | (refine j_qe rfl rfl rfl ?_; refine ⟨_, q_index_nat rfl rfl rfl rfl rfl (by omega), ?_⟩)) | (refine gSC ?_; first | refine sc_mv rfl ?_ | refine sc_q rfl ?_ | refine sc_region ?_) | (refine gSQ ?_; first | refine sq_go rfl ?_ | refine sq_mv rfl ?_) | refine j_nil ?_ | ((first | refine j_guard rfl rfl rfl rfl rfl ?_ ?_ | refine sc_cond rfl ?_ ?_) <;> intro hc <;> (first | exact absurd hc (by decide) | ((try simp only [engHC] at hc) <;> first | (exfalso; omega) | skip))))
          all_goals
            refine sq_loop (j + 1) ?_ ?_ ?_ ?_
            · show j + 1 ≤ ns; omega
            · show ns - (j + 1) < ns - j; omega
            · rw [hcj]; exact (by (try dsimp only); exact (by repeat (first | exact FSub.nil | refine FSub.cons rfl ?_ | refine FSub.conse rfl (by congr 1; omega) ?_)))
            · rw [hn1, hn2, hn3, hn4]; exact (by repeat (first | exact LSub.refl | refine LSub.cons (by repeat (first | exact Rem.here | apply Rem.there)) ?_ | apply LSub.skip))
      · have hjs : j = ns := by omega
        have hts : s.take j = s := by rw [hjs, hns]; exact List.take_length
        rw [hts, hn3]
        obtain ⟨z1, z2, z3, z4⟩ := hnb
        have hb9 : 0 ≤ p.kp ∧ p.kp ≤ p.tr ∧ p.tr ≤ 100 := by omega
        rw [← eop, ← eot, ekp]
        generalize List.countP (fun x => decide (ofM x = k)) s = cj at *
        clear hrs hn3 hJ hPK hrow hmk hM hall
        repeat' (first | (refine gJ ?_; first | refine js rfl rfl rfl rfl ?_ | (refine gload rfl rfl ?_; refine j_qe rfl rfl rfl ?_; refine ⟨_, q_load_own rfl rfl rfl rfl (by (repeat constructor)) (by first | rfl | assumption), ?_⟩) | refine jfield rfl rfl rfl rfl rfl rfl rfl rfl ?_ | refine jar rfl rfl rfl rfl rfl rfl rfl (by omega) ?_ | (refine gcall rfl rfl ?_; first | (refine j_qc (f := 19) rfl rfl rfl rfl rfl rfl rfl ?_; refine ⟨_, (fun w' _ => hle w'), ?_⟩) | (refine j_qc (f := 20) rfl rfl rfl rfl rfl rfl rfl ?_; refine ⟨_, (fun w' _ => hgr w'), ?_⟩)) | (refine j_qe rfl rfl rfl ?_; refine ⟨_, q_index_arr rfl rfl rfl rfl rfl (by omega), ?_⟩) | refine j_guard_undef rfl rfl rfl rfl rfl ?_) | (refine gSC ?_; first | refine sc_mv rfl ?_ | refine sc_q rfl ?_ | refine sc_region ?_) | (refine gSQ ?_; first | refine sq_go rfl ?_ | refine sq_mv rfl ?_) | refine j_nil ?_ | ((first | refine j_guard rfl rfl rfl rfl rfl ?_ ?_ | refine sc_cond rfl ?_ ?_) <;> intro hc <;> (first | exact absurd hc (by decide) | ((try simp only [engHC] at hc) <;> first | (exfalso; omega) | exact absurd trivial hc | skip))))
        all_goals
          refine sq_loop (i + 1) ?_ ?_ ?_ ?_
          · show i + 1 ≤ np; omega
          · show np - (i + 1) < np - i; omega
          · rw [hcn]; exact (by (try dsimp only); exact (by repeat (first | exact FSub.nil | refine FSub.cons rfl ?_ | refine FSub.conse rfl (by congr 1; omega) ?_)))
          · exact (by repeat (first | exact LSub.refl | refine LSub.cons (by repeat (first | exact Rem.here | apply Rem.there)) ?_ | apply LSub.skip))
  · repeat' (first | (refine gJ ?_; first | refine js rfl rfl rfl rfl ?_ | (refine j_qe rfl rfl rfl ?_; refine ⟨_, q_len_slice rfl rfl rfl rfl, ?_⟩)) | (refine gSC ?_; first | refine sc_mv rfl ?_ | refine sc_q rfl ?_ | refine sc_region ?_) | (refine gSQ ?_; first | refine sq_go rfl ?_ | refine sq_mv rfl ?_ | refine sq_ende (by first | exact .inl rfl | exact .inr rfl) rfl rfl ⟨_, (RVs.cons (RV.tmp rfl) (RVs.nil)), ?_⟩) | refine j_nil ?_ | ((refine sc_cond rfl ?_ ?_) <;> intro hc <;> (((try simp only [engHC] at hc) <;> first | (exfalso; omega) | skip))))
    have : i = np := by omega
    subst this
    have : K.take i = K := by rw [← hKP]; exact List.take_length
    rw [this, hall, hns]
    (intro w' hS; refine ⟨?_, hS.below⟩; simp only [pack])
    exact rb (by simp)
end Go.Proofs.YtmakokbpadmfbaaGreat
