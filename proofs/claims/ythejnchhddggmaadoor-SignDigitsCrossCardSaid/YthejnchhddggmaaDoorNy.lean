
/- The laws of the digits: SignDigitsMatchSpec, SignDigitsCross. -/
import Derived.Test.YthejnchhddggmaaDoorNx
set_option linter.unusedSimpArgs false
set_option linter.unusedVariables false
namespace Go.Sg
open Go.V
theorem ds_cmp {a b : List UInt8} : ∀ n, (∀ j, j < n → dg b j ≤ dg a j) → ds a n ≤ ds b n ∧ (ds a n = ds b n → ∀ j, j < n → dg a j = dg b j)
  | 0, _ => ⟨Int.le_refl _, fun _ j h => absurd h (Nat.not_lt_zero j)⟩
  | n + 1, h => by
    obtain ⟨h1, h2⟩ := ds_cmp n fun j hj => h j (by omega)
    have h3 := h n (by omega)
    refine ⟨by unfold ds; omega, fun e j hj => ?_⟩
    unfold ds at e
    rcases (by omega : j < n ∨ j = n) with hj | rfl
    · exact h2 (by omega) j hj
    · omega
theorem base4 {n : Int} (h0 : 0 ≤ n) (h1 : n < 256) : n = n % 4 + 4 * (n / 4 % 4) + 16 * (n / 16 % 4) + 64 * (n / 64 % 4) := by
  have e1 : n / 4 / 4 = n / 16 := Int.ediv_ediv_of_nonneg (by decide)
  have e2 : n / 16 / 4 = n / 64 := Int.ediv_ediv_of_nonneg (by decide)
  omega
theorem digit_less {a b : List UInt8} (ha : a.length = 16) (hb : b.length = 16) (hne : a ≠ b) : ∃ j, j < 68 ∧ dig a j < dig b j := by
  refine Classical.byContradiction fun hn => hne ?_
  have hle : ∀ j, j < 68 → dig b j ≤ dig a j := fun j hj => by
    rcases Int.lt_or_le (dig a j) (dig b j) with h | h
    · exact absurd ⟨j, hj, h⟩ hn
    · exact h
  have hg : ∀ j, j < 64 → dg b j ≤ dg a j := fun j hj => by
    have := hle j (by omega)
    unfold dig at this
    rw [if_pos hj, if_pos hj] at this
    exact this
  obtain ⟨h1, h2⟩ := ds_cmp 64 hg
  have sa := ds_le a 64
  have sb := ds_le b 64
  have hc : ∀ t, t < 4 → ds b 64 / 4 ^ t % 4 ≤ ds a 64 / 4 ^ t % 4 := fun t ht => by
    have := hle (67 - t) (by omega)
    unfold dig at this
    rw [if_neg (by omega), if_neg (by omega), show 67 - (67 - t) = t by omega] at this
    exact this
  have c0 := hc 0 (by decide)
  have c1 := hc 1 (by decide)
  have c2 := hc 2 (by decide)
  have c3 := hc 3 (by decide)
  rw [show (4 : Int) ^ 0 = 1 from rfl, Int.ediv_one, Int.ediv_one] at c0
  rw [show (4 : Int) ^ 1 = 4 from rfl] at c1
  rw [show (4 : Int) ^ 2 = 16 from rfl] at c2
  rw [show (4 : Int) ^ 3 = 64 from rfl] at c3
  have ba := base4 (n := ds a 64) (by omega) (by omega)
  have bb := base4 (n := ds b 64) (by omega) (by omega)
  generalize ds a 64 % 4 = x0 at *
  generalize ds a 64 / 4 % 4 = x1 at *
  generalize ds a 64 / 16 % 4 = x2 at *
  generalize ds a 64 / 64 % 4 = x3 at *
  generalize ds b 64 % 4 = y0 at *
  generalize ds b 64 / 4 % 4 = y1 at *
  generalize ds b 64 / 16 % 4 = y2 at *
  generalize ds b 64 / 64 % 4 = y3 at *
  have he := h2 (by omega)
  have hbyte : ∀ i, i < 16 → a.getD i 0 = b.getD i 0 := fun i hi => by
    have e0 := he (4 * i) (by omega)
    have e1 := he (4 * i + 1) (by omega)
    have e2 := he (4 * i + 2) (by omega)
    have e3 := he (4 * i + 3) (by omega)
    unfold dg at e0 e1 e2 e3
    rw [show (4 * i) / 4 = i by omega, show 3 - (4 * i) % 4 = 3 by omega] at e0
    rw [show (4 * i + 1) / 4 = i by omega, show 3 - (4 * i + 1) % 4 = 2 by omega] at e1
    rw [show (4 * i + 2) / 4 = i by omega, show 3 - (4 * i + 2) % 4 = 1 by omega] at e2
    rw [show (4 * i + 3) / 4 = i by omega, show 3 - (4 * i + 3) % 4 = 0 by omega] at e3
    rw [show 4 ^ 3 = 64 from rfl] at e0
    rw [show 4 ^ 2 = 16 from rfl] at e1
    rw [show 4 ^ 1 = 4 from rfl] at e2
    rw [show 4 ^ 0 = 1 from rfl] at e3
    have ha2 := (a.getD i 0).toNat_lt
    have hb2 := (b.getD i 0).toNat_lt
    exact UInt8.toNat_inj.1 (by omega)
  refine List.ext_getElem (by omega) fun i h1 h2 => ?_
  have := hbyte i (by omega)
  rwa [List.getD_eq_getElem?_getD, List.getD_eq_getElem?_getD, List.getElem?_eq_getElem h1, List.getElem?_eq_getElem h2] at this
def someB (p : Nat → Prop) [DecidablePred p] (n : Nat) : Bool := (List.range n).any fun j => decide (p j)
theorem someB_succ (p : Nat → Prop) [DecidablePred p] (n : Nat) : someB p (n + 1) = (someB p n || decide (p n)) := by
  unfold someB; rw [List.range_succ, List.any_append]; simp
theorem someB_true {p : Nat → Prop} [DecidablePred p] {n : Nat} (h : ∃ j, j < n ∧ p j) : someB p n = true := by
  obtain ⟨j, hj, hp⟩ := h
  exact List.any_eq_true.2 ⟨j, List.mem_range.2 hj, decide_eq_true hp⟩
end Go.Sg
namespace Go.Proofs.YthejnchhddggmaaDoor
open Go.V Go.RowKit Go.U Go.L Go.Lx Go.Sg
set_option maxRecDepth 10000
set_option maxHeartbeats 4000000
def gA : Asc := [(1, u32A 64 Sha.kTab), (0, u32A 64 Sha.kTab)]
theorem gA_ok : GOk gA := by
  intro x v h
  unfold gA at h
  rw [get?_cons] at h
  split at h
  · cases h; exact ⟨fun i hi => trivial, fun i hi => trivial⟩
  · rw [get?_cons] at h
    split at h
    · cases h; exact ⟨fun i hi => trivial, fun i hi => trivial⟩
    · cases h
theorem gK_A : subG gK gA := by
  intro x v h
  unfold gK at h
  rw [get?_cons] at h
  split at h
  · rename_i e; subst e; cases h; rfl
  · cases h
theorem gR_A : subG gR gA := by
  intro x v h
  unfold gR at h
  rw [get?_cons] at h
  split at h
  · rename_i e; subst e; cases h; rfl
  · cases h
theorem lawDigits_ok (d : List UInt8) (hd : d.length = 16) : Ok Tryd.prog 3 gK [] (.pair (u8A 16 d) .nul) (fun r h' => r = .bool true ∧ h' = []) := by
  have csan := sanity_ok
  have c1 := sDigits_ok d hd
  have c2 := rDigits_ok d hd
  have hle := dig_le d
  generalize dig d = Z at *
  refine Ok.of_vcC tt_ok Tryd.func3 rfl rfl (by show 1 ≤ _; decide) 0 (hlt_ok (by rfl)) fun c0 => ?_
  repeat' (first | (refine SS_ ?_) | (refine Seq.lit (by rfl) (by rfl) LT2_ ?_) | (refine Seq.callq false (csan) Tryd.func9 GG_ SG_ (by rfl) rfl rfl rfl (by rfl) rfl VW_ NI_ NI_ FR_ ?_) | (refine Seq.callq false (c1) Tryd.func10 GG_ SG_ (by rfl) rfl rfl rfl (by rfl) rfl VW_ NI_ NI_ FR_ ?_) | (refine Seq.callq false (c2) Tryd.func11 GG_ SG_ (by rfl) rfl rfl rfl (by rfl) rfl VW_ NI_ NI_ FR_ ?_) | (refine VC.litT (by rfl) LTR_ ?_) | (refine VC.litF (by rfl) LFA_ ?_) | (refine DD_ ?_) | (refine DSeq.lit2 (by rfl) (by rfl) (by rfl) LT2_ (by rfl) ?_) | (refine DSeq.callq false (csan) Tryd.func9 GG_ SG_ (by rfl) (fastE (by rfl)) (fastH (by rfl)) (by rfl) rfl rfl rfl (by rfl) (by rfl) VW_ NI_ NI_ FR_ ?_) | (refine DSeq.callq false (c1) Tryd.func10 GG_ SG_ (by rfl) (fastE (by rfl)) (fastH (by rfl)) (by rfl) rfl rfl rfl (by rfl) (by rfl) VW_ NI_ NI_ FR_ ?_) | (refine DSeq.callq false (c2) Tryd.func11 GG_ SG_ (by rfl) (fastE (by rfl)) (fastH (by rfl)) (by rfl) rfl rfl rfl (by rfl) (by rfl) VW_ NI_ NI_ FR_ ?_) | ((refine retQ_ok (by rfl) [] nil_sub ⟨?_, rfl⟩); try rfl) | (refine Seq.litC (by rfl) (by rfl) (fun hb => ?_) (fun hb => ?_) <;> (fail_if_success (with_reducible have := litT_ hb)) <;> (fail_if_success (with_reducible have := litF_ hb)) <;> (try simp only [decide_eq_true_eq, decide_eq_false_iff_not, Bool.not_eq_true', Bool.not_eq_false', Bool.or_eq_true, Bool.or_eq_false_iff, Bool.and_eq_true, Bool.and_eq_false_iff] at hb) <;> (try (exfalso; first | omega | (cases hb; done)))) | (refine VC.cond (by rfl) (fun hb => ?_) (fun hb => ?_) <;> (fail_if_success (with_reducible have := litT_ hb)) <;> (fail_if_success (with_reducible have := litF_ hb)) <;> (try simp only [decide_eq_true_eq, decide_eq_false_iff_not, Bool.not_eq_true', Bool.not_eq_false', Bool.or_eq_true, Bool.or_eq_false_iff, Bool.and_eq_true, Bool.and_eq_false_iff] at hb) <;> (try (exfalso; first | omega | (cases hb; done)))) | (refine DSeq.litC2 (by rfl) (by rfl) (by rfl) (by rfl) (by rfl) (fun hb => ?_) (fun hb => ?_) <;> (fail_if_success (with_reducible have := litT_ hb)) <;> (fail_if_success (with_reducible have := litF_ hb)) <;> (try simp only [decide_eq_true_eq, decide_eq_false_iff_not, Bool.not_eq_true', Bool.not_eq_false', Bool.or_eq_true, Bool.or_eq_false_iff, Bool.and_eq_true, Bool.and_eq_false_iff] at hb) <;> (try (exfalso; first | omega | (cases hb; done)))))
  refine VC.loop (fun q : Nat => ⟨[(6, .int .i64 (q : Nat)), (5, .rsl true 68 1 (fun j => .int .i64 (Z j))), (4, .rsl true 68 1 (fun j => .int .i64 (Z j))), (3, .bool true)], [], gK, 1⟩) (fun q => q ≤ 68) (fun q => 68 - q) 0 (by omega) (Sim.less [] (by rfl) R_ R_) fun q hq => ?_
  by_cases hqq : q < 68
  · have hz := hle ((q : Nat) : Int).toNat
    repeat' (first | (refine SS_ ?_) | (refine VC.drawm (id := 9) [(0, 0), (1, 0), (2, 3), (3, 7), (4, 0), (5, 0), (6, 48), (7, 112), (8, 255), (9, 511), (10, 1023), (11, 1023), (12, 4095), (13, 8191), (14, 16383), (15, 32767), (16, 65535), (17, 131071), (18, 131071), (19, 524287), (20, 1048575), (21, 2097151), (22, 4194303)] [] (by rfl) (by kernel_rfl) (by rfl) ?_) | (refine VC.drawn2 (id := 9) [(0, 0), (1, 0), (2, 3), (3, 7), (4, 0), (5, 0), (6, 48), (7, 112), (8, 255), (9, 511), (10, 1023), (11, 1023), (12, 4095), (13, 8191), (14, 16383), (15, 32767), (16, 65535), (17, 131071), (18, 131071), (19, 524287), (20, 1048575), (21, 2097151), (22, 4194303)] [] (by rfl) (by kernel_rfl) (by rfl) (by rfl) ?_) | (refine Seq.lit (by rfl) (by rfl) LT2_ ?_) | (refine VC.litT (by rfl) LTR_ ?_) | (refine VC.litF (by rfl) LFA_ ?_) | (refine DD_ ?_) | (refine DSeq.lit2 (by rfl) (by rfl) (by rfl) LT2_ (by rfl) ?_) | ((refine retQ_ok (by rfl) [] nil_sub ⟨?_, rfl⟩); try rfl) | (refine Seq.litC (by rfl) (by rfl) (fun hb => ?_) (fun hb => ?_) <;> (fail_if_success (with_reducible have := litT_ hb)) <;> (fail_if_success (with_reducible have := litF_ hb)) <;> (try simp only [decide_eq_true_eq, decide_eq_false_iff_not, Bool.not_eq_true', Bool.not_eq_false', Bool.or_eq_true, Bool.or_eq_false_iff, Bool.and_eq_true, Bool.and_eq_false_iff] at hb) <;> (try (exfalso; first | omega | (cases hb; done)))) | (refine VC.cond (by rfl) (fun hb => ?_) (fun hb => ?_) <;> (fail_if_success (with_reducible have := litT_ hb)) <;> (fail_if_success (with_reducible have := litF_ hb)) <;> (try simp only [decide_eq_true_eq, decide_eq_false_iff_not, Bool.not_eq_true', Bool.not_eq_false', Bool.or_eq_true, Bool.or_eq_false_iff, Bool.and_eq_true, Bool.and_eq_false_iff] at hb) <;> (try (exfalso; first | omega | (cases hb; done)))) | (refine DSeq.litC2 (by rfl) (by rfl) (by rfl) (by rfl) (by rfl) (fun hb => ?_) (fun hb => ?_) <;> (fail_if_success (with_reducible have := litT_ hb)) <;> (fail_if_success (with_reducible have := litF_ hb)) <;> (try simp only [decide_eq_true_eq, decide_eq_false_iff_not, Bool.not_eq_true', Bool.not_eq_false', Bool.or_eq_true, Bool.or_eq_false_iff, Bool.and_eq_true, Bool.and_eq_false_iff] at hb) <;> (try (exfalso; first | omega | (cases hb; done)))))
    refine ⟨q + 1, by omega, by omega, ?_⟩
    refine Sim.less [] (by rfl) ?_ ?_ <;> (repeat' (first | exact EnvLe.nil | exact HeapLe.nil | with_reducible apply EnvLe.cons | with_reducible apply HeapLe.cons | (with_reducible refine RelA.int ?_; first | (refine Keep.mk ?_; first | with_reducible rfl | omega | decide) | skip) | exact rfl | exact ⟨rfl, rfl⟩ | (with_reducible refine RelA.rsl ?_; intro i hi) | (with_reducible refine RelA.arr ?_; intro i hi) | with_reducible refine RelA.pair ?_ ?_ | with_reducible refine RelA.rptr ?_ | (with_reducible refine RelA.rslw ?_; intro i hi) | (refine RelA.rsl ?_; intro i hi) | (refine RelA.rslw ?_; intro i hi) | (refine RelA.arr ?_; intro i hi) | refine RelA.pair ?_ ?_ | refine RelA.tup ?_ | ((first | refine RelA.rslL (by first | rfl | ((try simp only [List.length_take, List.length_drop, List.length_append, List.length_cons, List.length_nil, List.length_map, List.length_range]); omega)) ?_ | refine RelA.rslT (by first | rfl | ((try simp only [List.length_take, List.length_drop, List.length_append, List.length_cons, List.length_nil, List.length_map, List.length_range]); omega)) ?_ | refine RelA.arrL (by first | rfl | ((try simp only [List.length_take, List.length_drop, List.length_append, List.length_cons, List.length_nil, List.length_map, List.length_range]); omega)) ?_); intro i hi; (try simp only [List.length_take, List.length_drop] at hi); (try simp (disch := omega) only [getD_take, getD_drop, Nat.zero_add, Int.toNat_natCast])) | exact RelA.bif_int | refine RelA.fn ?_ ?_ | exact NoId.self (by first | ((repeat' (first | exact trivial | exact rfl | refine NoFr.bif ?_ ?_ | refine NoId.bif ?_ ?_ | refine AllFr.bif ?_ ?_ | (intro i hi) | (refine ⟨?_, ?_⟩) | (intro e; cases e; done))); done) | fail))) <;> (try with_reducible refine Keep.mk ?_)
  · repeat' (first | (refine SS_ ?_) | (done) | (refine Seq.lit (by rfl) (by rfl) LT2_ ?_) | (refine VC.litT (by rfl) LTR_ ?_) | (refine VC.litF (by rfl) LFA_ ?_) | (refine DD_ ?_) | (refine DSeq.lit2 (by rfl) (by rfl) (by rfl) LT2_ (by rfl) ?_) | ((refine retQ_ok (by rfl) [] nil_sub ⟨?_, rfl⟩); try rfl) | (refine Seq.litC (by rfl) (by rfl) (fun hb => ?_) (fun hb => ?_) <;> (fail_if_success (with_reducible have := litT_ hb)) <;> (fail_if_success (with_reducible have := litF_ hb)) <;> (try simp only [decide_eq_true_eq, decide_eq_false_iff_not, Bool.not_eq_true', Bool.not_eq_false', Bool.or_eq_true, Bool.or_eq_false_iff, Bool.and_eq_true, Bool.and_eq_false_iff] at hb) <;> (try (exfalso; first | omega | (cases hb; done)))) | (refine VC.cond (by rfl) (fun hb => ?_) (fun hb => ?_) <;> (fail_if_success (with_reducible have := litT_ hb)) <;> (fail_if_success (with_reducible have := litF_ hb)) <;> (try simp only [decide_eq_true_eq, decide_eq_false_iff_not, Bool.not_eq_true', Bool.not_eq_false', Bool.or_eq_true, Bool.or_eq_false_iff, Bool.and_eq_true, Bool.and_eq_false_iff] at hb) <;> (try (exfalso; first | omega | (cases hb; done)))) | (refine DSeq.litC2 (by rfl) (by rfl) (by rfl) (by rfl) (by rfl) (fun hb => ?_) (fun hb => ?_) <;> (fail_if_success (with_reducible have := litT_ hb)) <;> (fail_if_success (with_reducible have := litF_ hb)) <;> (try simp only [decide_eq_true_eq, decide_eq_false_iff_not, Bool.not_eq_true', Bool.not_eq_false', Bool.or_eq_true, Bool.or_eq_false_iff, Bool.and_eq_true, Bool.and_eq_false_iff] at hb) <;> (try (exfalso; first | omega | (cases hb; done)))))
    (refine retC_mk ([(2, .bool true)]) ([]) 1 (Sim.less [] (by rfl) R_ R_) (retQ_ok (by rfl) ([]) (fun i av h => h) ⟨?_, ?_⟩)) <;> rfl
theorem lawCross_ok (a b : List UInt8) (ha : a.length = 16) (hb : b.length = 16) : Ok Tryd.prog 7 gK [] (.pair (u8A 16 a) (.pair (u8A 16 b) .nul)) (fun r h' => r = .bool true ∧ h' = []) := by
  have csan := sanity_ok
  have c1 := sDigits_ok a ha
  have c2 := sDigits_ok b hb
  have hl := someB_succ (fun j => dig a j < dig b j)
  have hm := someB_succ (fun j => dig b j < dig a j)
  have hfin : a = b ∨ (someB (fun j => dig a j < dig b j) 68 = true ∧ someB (fun j => dig b j < dig a j) 68 = true) := by
    by_cases h : a = b
    · exact .inl h
    · exact .inr ⟨someB_true (digit_less ha hb h), someB_true (digit_less hb ha (fun e => h e.symm))⟩
  have h0l : someB (fun j => dig a j < dig b j) 0 = false := rfl
  have h0m : someB (fun j => dig b j < dig a j) 0 = false := rfl
  generalize someB (fun j => dig a j < dig b j) = Lb at *
  generalize someB (fun j => dig b j < dig a j) = Mb at *
  generalize dig a = X at *
  generalize dig b = Y at *
  refine Ok.of_vcC tt_ok Tryd.func7 rfl rfl (by show 2 ≤ _; decide) 0 (hlt_ok (by rfl)) fun c0 => ?_
  repeat' (first | (refine SS_ ?_) | (refine Seq.lit (by rfl) (by rfl) LT2_ ?_) | (refine Seq.callq false (csan) Tryd.func9 GG_ SG_ (by rfl) rfl rfl rfl (by rfl) rfl VW_ NI_ NI_ FR_ ?_) | (refine Seq.callq false (c1) Tryd.func10 GG_ SG_ (by rfl) rfl rfl rfl (by rfl) rfl VW_ NI_ NI_ FR_ ?_) | (refine Seq.callq false (c2) Tryd.func10 GG_ SG_ (by rfl) rfl rfl rfl (by rfl) rfl VW_ NI_ NI_ FR_ ?_) | (refine VC.litT (by rfl) LTR_ ?_) | (refine VC.litF (by rfl) LFA_ ?_) | (refine DD_ ?_) | (refine DSeq.lit2 (by rfl) (by rfl) (by rfl) LT2_ (by rfl) ?_) | (refine DSeq.callq false (csan) Tryd.func9 GG_ SG_ (by rfl) (fastE (by rfl)) (fastH (by rfl)) (by rfl) rfl rfl rfl (by rfl) (by rfl) VW_ NI_ NI_ FR_ ?_) | (refine DSeq.callq false (c1) Tryd.func10 GG_ SG_ (by rfl) (fastE (by rfl)) (fastH (by rfl)) (by rfl) rfl rfl rfl (by rfl) (by rfl) VW_ NI_ NI_ FR_ ?_) | (refine DSeq.callq false (c2) Tryd.func10 GG_ SG_ (by rfl) (fastE (by rfl)) (fastH (by rfl)) (by rfl) rfl rfl rfl (by rfl) (by rfl) VW_ NI_ NI_ FR_ ?_) | ((refine retQ_ok (by rfl) [] nil_sub ⟨?_, rfl⟩); try rfl) | (refine Seq.litC (by rfl) (by rfl) (fun hb => ?_) (fun hb => ?_) <;> (fail_if_success (with_reducible have := litT_ hb)) <;> (fail_if_success (with_reducible have := litF_ hb)) <;> (try simp only [decide_eq_true_eq, decide_eq_false_iff_not, Bool.not_eq_true', Bool.not_eq_false', Bool.or_eq_true, Bool.or_eq_false_iff, Bool.and_eq_true, Bool.and_eq_false_iff] at hb) <;> (try (exfalso; first | omega | (cases hb; done)))) | (refine VC.cond (by rfl) (fun hb => ?_) (fun hb => ?_) <;> (fail_if_success (with_reducible have := litT_ hb)) <;> (fail_if_success (with_reducible have := litF_ hb)) <;> (try simp only [decide_eq_true_eq, decide_eq_false_iff_not, Bool.not_eq_true', Bool.not_eq_false', Bool.or_eq_true, Bool.or_eq_false_iff, Bool.and_eq_true, Bool.and_eq_false_iff] at hb) <;> (try (exfalso; first | omega | (cases hb; done)))) | (refine DSeq.litC2 (by rfl) (by rfl) (by rfl) (by rfl) (by rfl) (fun hb => ?_) (fun hb => ?_) <;> (fail_if_success (with_reducible have := litT_ hb)) <;> (fail_if_success (with_reducible have := litF_ hb)) <;> (try simp only [decide_eq_true_eq, decide_eq_false_iff_not, Bool.not_eq_true', Bool.not_eq_false', Bool.or_eq_true, Bool.or_eq_false_iff, Bool.and_eq_true, Bool.and_eq_false_iff] at hb) <;> (try (exfalso; first | omega | (cases hb; done)))))
  refine VC.loop (fun q : Nat => ⟨[(10, .int .i64 (q : Nat)), (9, .bool (Mb q)), (8, .bool (Lb q)), (7, .rsl true 68 1 (fun j => .int .i64 (Y j))), (6, .rsl true 68 1 (fun j => .int .i64 (X j))), (5, .bool true), (3, .ptr 1 []), (2, .ptr 0 [])], [(0, u8A 16 a), (1, u8A 16 b)], gK, 2⟩) (fun q => q ≤ 68) (fun q => 68 - q) 0 (by omega) (by rw [h0l, h0m]; refine Sim.less [] (by rfl) ?_ ?_ <;> (repeat' (first | exact EnvLe.nil | exact HeapLe.nil | with_reducible apply EnvLe.cons | with_reducible apply HeapLe.cons | (with_reducible refine RelA.int ?_; first | (refine Keep.mk ?_; first | with_reducible rfl | omega | decide) | skip) | exact rfl | exact ⟨rfl, rfl⟩ | (with_reducible refine RelA.rsl ?_; intro i hi) | (with_reducible refine RelA.arr ?_; intro i hi) | with_reducible refine RelA.pair ?_ ?_ | with_reducible refine RelA.rptr ?_ | (with_reducible refine RelA.rslw ?_; intro i hi) | (refine RelA.rsl ?_; intro i hi) | (refine RelA.rslw ?_; intro i hi) | (refine RelA.arr ?_; intro i hi) | refine RelA.pair ?_ ?_ | refine RelA.tup ?_ | ((first | refine RelA.rslL (by first | rfl | ((try simp only [List.length_take, List.length_drop, List.length_append, List.length_cons, List.length_nil, List.length_map, List.length_range]); omega)) ?_ | refine RelA.rslT (by first | rfl | ((try simp only [List.length_take, List.length_drop, List.length_append, List.length_cons, List.length_nil, List.length_map, List.length_range]); omega)) ?_ | refine RelA.arrL (by first | rfl | ((try simp only [List.length_take, List.length_drop, List.length_append, List.length_cons, List.length_nil, List.length_map, List.length_range]); omega)) ?_); intro i hi; (try simp only [List.length_take, List.length_drop] at hi); (try simp (disch := omega) only [getD_take, getD_drop, Nat.zero_add, Int.toNat_natCast])) | exact RelA.bif_int | refine RelA.fn ?_ ?_ | exact NoId.self (by first | ((repeat' (first | exact trivial | exact rfl | refine NoFr.bif ?_ ?_ | refine NoId.bif ?_ ?_ | refine AllFr.bif ?_ ?_ | (intro i hi) | (refine ⟨?_, ?_⟩) | (intro e; cases e; done))); done) | fail))) <;> (try with_reducible refine Keep.mk ?_)) fun q hq => ?_
  by_cases hqq : q < 68
  · have hl := hl q
    have hm := hm q
    have hx : X ((q : Nat) : Int).toNat = X q := by rw [Int.toNat_natCast]
    have hy : Y ((q : Nat) : Int).toNat = Y q := by rw [Int.toNat_natCast]
    generalize hLn : Lb (q + 1) = Ln at *
    generalize hMn : Mb (q + 1) = Mn at *
    cases hLq : Lb q <;> cases hMq : Mb q <;> rw [hLq] at hl <;> rw [hMq] at hm
    all_goals
      repeat' (first | (refine SS_ ?_) | (refine VC.drawm (id := 11) [(0, 0), (1, 1), (2, 3), (3, 3), (4, 15), (5, 31), (6, 3), (7, 3), (8, 195), (9, 451), (10, 1023), (11, 2047)] [12] (by rfl) (by kernel_rfl) (by rfl) ?_) | (refine VC.drawn2 (id := 11) [(0, 0), (1, 1), (2, 3), (3, 3), (4, 15), (5, 31), (6, 3), (7, 3), (8, 195), (9, 451), (10, 1023), (11, 2047)] [12] (by rfl) (by kernel_rfl) (by rfl) (by rfl) ?_) | (refine VC.drawm (id := 12) [(0, 0), (1, 1), (2, 3), (3, 3), (4, 15), (5, 31), (6, 3), (7, 3), (8, 195), (9, 451), (10, 1023), (11, 2047)] [12] (by rfl) (by kernel_rfl) (by rfl) ?_) | (refine VC.drawn2 (id := 12) [(0, 0), (1, 1), (2, 3), (3, 3), (4, 15), (5, 31), (6, 3), (7, 3), (8, 195), (9, 451), (10, 1023), (11, 2047)] [12] (by rfl) (by kernel_rfl) (by rfl) (by rfl) ?_) | (refine Seq.lit (by rfl) (by rfl) LT2_ ?_) | (refine VC.litT (by rfl) LTR_ ?_) | (refine VC.litF (by rfl) LFA_ ?_) | (refine DD_ ?_) | (refine DSeq.lit2 (by rfl) (by rfl) (by rfl) LT2_ (by rfl) ?_) | ((refine retQ_ok (by rfl) [] nil_sub ⟨?_, rfl⟩); try rfl) | (refine Seq.litC (by rfl) (by rfl) (fun hb => ?_) (fun hb => ?_) <;> (fail_if_success (with_reducible have := litT_ hb)) <;> (fail_if_success (with_reducible have := litF_ hb)) <;> (try simp only [decide_eq_true_eq, decide_eq_false_iff_not, Bool.not_eq_true', Bool.not_eq_false', Bool.or_eq_true, Bool.or_eq_false_iff, Bool.and_eq_true, Bool.and_eq_false_iff] at hb) <;> (try (exfalso; first | omega | (cases hb; done)))) | (refine VC.cond (by rfl) (fun hb => ?_) (fun hb => ?_) <;> (fail_if_success (with_reducible have := litT_ hb)) <;> (fail_if_success (with_reducible have := litF_ hb)) <;> (try simp only [decide_eq_true_eq, decide_eq_false_iff_not, Bool.not_eq_true', Bool.not_eq_false', Bool.or_eq_true, Bool.or_eq_false_iff, Bool.and_eq_true, Bool.and_eq_false_iff] at hb) <;> (try (exfalso; first | omega | (cases hb; done)))) | (refine DSeq.litC2 (by rfl) (by rfl) (by rfl) (by rfl) (by rfl) (fun hb => ?_) (fun hb => ?_) <;> (fail_if_success (with_reducible have := litT_ hb)) <;> (fail_if_success (with_reducible have := litF_ hb)) <;> (try simp only [decide_eq_true_eq, decide_eq_false_iff_not, Bool.not_eq_true', Bool.not_eq_false', Bool.or_eq_true, Bool.or_eq_false_iff, Bool.and_eq_true, Bool.and_eq_false_iff] at hb) <;> (try (exfalso; first | omega | (cases hb; done)))))
      refine ⟨q + 1, by omega, by omega, ?_⟩
      rw [hLn, hMn, hl, hm]
      simp only [Bool.false_or, Bool.true_or, hx, hy]
      refine Sim.less [] (by rfl) ?_ ?_ <;> (repeat' (first | exact EnvLe.nil | exact HeapLe.nil | with_reducible apply EnvLe.cons | with_reducible apply HeapLe.cons | (with_reducible refine RelA.int ?_; first | (refine Keep.mk ?_; first | with_reducible rfl | omega | decide) | skip) | exact rfl | exact ⟨rfl, rfl⟩ | (with_reducible refine RelA.rsl ?_; intro i hi) | (with_reducible refine RelA.arr ?_; intro i hi) | with_reducible refine RelA.pair ?_ ?_ | with_reducible refine RelA.rptr ?_ | (with_reducible refine RelA.rslw ?_; intro i hi) | (refine RelA.rsl ?_; intro i hi) | (refine RelA.rslw ?_; intro i hi) | (refine RelA.arr ?_; intro i hi) | refine RelA.pair ?_ ?_ | refine RelA.tup ?_ | ((first | refine RelA.rslL (by first | rfl | ((try simp only [List.length_take, List.length_drop, List.length_append, List.length_cons, List.length_nil, List.length_map, List.length_range]); omega)) ?_ | refine RelA.rslT (by first | rfl | ((try simp only [List.length_take, List.length_drop, List.length_append, List.length_cons, List.length_nil, List.length_map, List.length_range]); omega)) ?_ | refine RelA.arrL (by first | rfl | ((try simp only [List.length_take, List.length_drop, List.length_append, List.length_cons, List.length_nil, List.length_map, List.length_range]); omega)) ?_); intro i hi; (try simp only [List.length_take, List.length_drop] at hi); (try simp (disch := omega) only [getD_take, getD_drop, Nat.zero_add, Int.toNat_natCast])) | exact RelA.bif_int | refine RelA.fn ?_ ?_ | exact NoId.self (by first | ((repeat' (first | exact trivial | exact rfl | refine NoFr.bif ?_ ?_ | refine NoId.bif ?_ ?_ | refine AllFr.bif ?_ ?_ | (intro i hi) | (refine ⟨?_, ?_⟩) | (intro e; cases e; done))); done) | fail))) <;> (try with_reducible refine Keep.mk ?_)
  · obtain rfl : q = 68 := by omega
    have hE := digA_eq ha hb
    by_cases hab : a = b
    · have hE := hE.2 hab
      repeat' (first | (refine SS_ ?_) | (refine Seq.eqarr (true) tt_ok (by rfl) (by rfl) (by rfl) (by kernel_rfl) (by rfl) (by rfl) (by rfl) rfl ⟨fun _ => hE, fun _ => rfl⟩ ?_) | (refine Seq.lit (by rfl) (by rfl) LT2_ ?_) | (refine VC.litT (by rfl) LTR_ ?_) | (refine VC.litF (by rfl) LFA_ ?_) | (refine DD_ ?_) | (refine DSeq.lit2 (by rfl) (by rfl) (by rfl) LT2_ (by rfl) ?_) | ((refine retQ_ok (by rfl) [] nil_sub ⟨?_, rfl⟩); try rfl) | (refine Seq.litC (by rfl) (by rfl) (fun hb => ?_) (fun hb => ?_) <;> (fail_if_success (with_reducible have := litT_ hb)) <;> (fail_if_success (with_reducible have := litF_ hb)) <;> (try simp only [decide_eq_true_eq, decide_eq_false_iff_not, Bool.not_eq_true', Bool.not_eq_false', Bool.or_eq_true, Bool.or_eq_false_iff, Bool.and_eq_true, Bool.and_eq_false_iff] at hb) <;> (try (exfalso; first | omega | (cases hb; done)))) | (refine VC.cond (by rfl) (fun hb => ?_) (fun hb => ?_) <;> (fail_if_success (with_reducible have := litT_ hb)) <;> (fail_if_success (with_reducible have := litF_ hb)) <;> (try simp only [decide_eq_true_eq, decide_eq_false_iff_not, Bool.not_eq_true', Bool.not_eq_false', Bool.or_eq_true, Bool.or_eq_false_iff, Bool.and_eq_true, Bool.and_eq_false_iff] at hb) <;> (try (exfalso; first | omega | (cases hb; done)))) | (refine DSeq.litC2 (by rfl) (by rfl) (by rfl) (by rfl) (by rfl) (fun hb => ?_) (fun hb => ?_) <;> (fail_if_success (with_reducible have := litT_ hb)) <;> (fail_if_success (with_reducible have := litF_ hb)) <;> (try simp only [decide_eq_true_eq, decide_eq_false_iff_not, Bool.not_eq_true', Bool.not_eq_false', Bool.or_eq_true, Bool.or_eq_false_iff, Bool.and_eq_true, Bool.and_eq_false_iff] at hb) <;> (try (exfalso; first | omega | (cases hb; done)))))
      (refine retC_mk ([(4, .bool true)]) ([]) 2 (Sim.less [] (by rfl) R_ R_) (retQ_ok (by rfl) ([]) (fun i av h => h) ⟨?_, ?_⟩)) <;> rfl
    · obtain ⟨hl, hm⟩ := hfin.resolve_left hab
      have hE : ¬ _ := fun h => hab (hE.1 h)
      rw [hl, hm]
      repeat' (first | (refine SS_ ?_) | (refine Seq.eqarr (false) tt_ok (by rfl) (by rfl) (by rfl) (by kernel_rfl) (by rfl) (by rfl) (by rfl) rfl ⟨fun e => (by cases e), fun e => (hE e).elim⟩ ?_) | (refine Seq.lit (by rfl) (by rfl) LT2_ ?_) | (refine VC.litT (by rfl) LTR_ ?_) | (refine VC.litF (by rfl) LFA_ ?_) | (refine DD_ ?_) | (refine DSeq.lit2 (by rfl) (by rfl) (by rfl) LT2_ (by rfl) ?_) | ((refine retQ_ok (by rfl) [] nil_sub ⟨?_, rfl⟩); try rfl) | (refine Seq.litC (by rfl) (by rfl) (fun hb => ?_) (fun hb => ?_) <;> (fail_if_success (with_reducible have := litT_ hb)) <;> (fail_if_success (with_reducible have := litF_ hb)) <;> (try simp only [decide_eq_true_eq, decide_eq_false_iff_not, Bool.not_eq_true', Bool.not_eq_false', Bool.or_eq_true, Bool.or_eq_false_iff, Bool.and_eq_true, Bool.and_eq_false_iff] at hb) <;> (try (exfalso; first | omega | (cases hb; done)))) | (refine VC.cond (by rfl) (fun hb => ?_) (fun hb => ?_) <;> (fail_if_success (with_reducible have := litT_ hb)) <;> (fail_if_success (with_reducible have := litF_ hb)) <;> (try simp only [decide_eq_true_eq, decide_eq_false_iff_not, Bool.not_eq_true', Bool.not_eq_false', Bool.or_eq_true, Bool.or_eq_false_iff, Bool.and_eq_true, Bool.and_eq_false_iff] at hb) <;> (try (exfalso; first | omega | (cases hb; done)))) | (refine DSeq.litC2 (by rfl) (by rfl) (by rfl) (by rfl) (by rfl) (fun hb => ?_) (fun hb => ?_) <;> (fail_if_success (with_reducible have := litT_ hb)) <;> (fail_if_success (with_reducible have := litF_ hb)) <;> (try simp only [decide_eq_true_eq, decide_eq_false_iff_not, Bool.not_eq_true', Bool.not_eq_false', Bool.or_eq_true, Bool.or_eq_false_iff, Bool.and_eq_true, Bool.and_eq_false_iff] at hb) <;> (try (exfalso; first | omega | (cases hb; done)))))
      (refine retC_mk ([(4, .bool true)]) ([]) 2 (Sim.less [] (by rfl) R_ R_) (retQ_ok (by rfl) ([]) (fun i av h => h) ⟨?_, ?_⟩)) <;> rfl
end Go.Proofs.YthejnchhddggmaaDoor
