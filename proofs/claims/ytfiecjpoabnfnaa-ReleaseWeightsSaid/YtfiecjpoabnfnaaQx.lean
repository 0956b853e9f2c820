
/- dioramalaw25.ReleaseTables walks. -/
import Derived.Test.YtfiecjpoabnfnaaQv
import Derived.Test.YtfiecjpoabnfnaaQw
set_option linter.unusedSimpArgs false
set_option linter.unusedVariables false
namespace Go.Rl
open Go.V Go.Lx
structure Bd (t : Tab) (s r v : Nat) : Prop where
  s : t.S.length ≤ s
  r : t.R.length ≤ r
  v : ∀ i, (t.R.getD i rowZ).V.length ≤ v
theorem set_bd {R : List Row} {i : Nat} {x : Row} {v : Nat} (h : ∀ i, (R.getD i rowZ).V.length ≤ v) (hx : x.V.length ≤ v + 1) (k : Nat) : ((R.set i x).getD k rowZ).V.length ≤ v + 1 := by
  by_cases e : k = i
  · subst e
    rcases Nat.lt_or_ge k R.length with hk | hk
    · rw [set_get hk]; exact hx
    · rw [List.getD_eq_getElem?_getD, List.getElem?_eq_none (by rw [List.length_set]; exact hk)]; exact Nat.zero_le _
  · rw [set_ne e]; have := h k; omega
theorem app_bd {R X : List Row} {v : Nat} (h : ∀ i, (R.getD i rowZ).V.length ≤ v) (hx : ∀ x ∈ X, x.V.length ≤ v + 1) (k : Nat) : ((R ++ X).getD k rowZ).V.length ≤ v + 1 := by
  rcases Nat.lt_or_ge k (R ++ X).length with hk | hk
  · rcases List.mem_append.1 (getD_mem (d := rowZ) hk) with hm | hm
    · obtain ⟨j, hj, e⟩ := (mem_getD (d := rowZ)).1 hm
      rw [← e]; have := h j; omega
    · exact hx _ hm
  · rw [List.getD_eq_getElem?_getD, List.getElem?_eq_none hk]; exact Nat.zero_le _
theorem bent_bd {t : Tab} {s r v : Nat} (h : Bd t s r v) (a hh b : Int) : Bd (bent t a hh b) (max s 9) (max (r + 1) 65) (v + 1) := by
  obtain ⟨h1, h2, h3⟩ := h
  have b3 := around_lt b 3 (by decide)
  have b2 := around_lt b 2 (by decide)
  have hI := h3 (bentI t a)
  unfold bent
  split
  · unfold bent0
    exact ⟨by show (t.S.set _ _).length ≤ _; rw [List.length_set]; omega, by show t.R.length ≤ _; omega, fun i => by have := h3 i; show (t.R.getD i rowZ).V.length ≤ _; omega⟩
  · split
    · exact ⟨by show t.S.length ≤ _; omega, by show (t.R.set _ _).length ≤ _; rw [List.length_set]; omega, set_bd h3 (by show (t.R.getD (bentI t a) rowZ).V.length ≤ _; omega)⟩
    · split
      · exact ⟨by show t.S.length ≤ _; omega, by show (t.R.set _ _).length ≤ _; rw [List.length_set]; omega, set_bd h3 (by show ((t.R.getD (bentI t a) rowZ).V.set _ _).length ≤ _; rw [List.length_set]; omega)⟩
      · split
        · exact ⟨by show t.S.length ≤ _; omega, by show (t.R.set _ _).length ≤ _; rw [List.length_set]; omega, set_bd h3 (by show ((t.R.getD (bentI t a) rowZ).V ++ [0]).length ≤ _; rw [List.length_append, List.length_singleton]; omega)⟩
        · split
          · refine ⟨by show t.S.length ≤ _; omega, ?_, app_bd h3 fun x hx => ?_⟩
            · show (t.R ++ _).length ≤ _
              rw [List.length_append, List.length_map, List.length_range]; omega
            · obtain ⟨p, _, rfl⟩ := List.mem_map.1 hx
              show (t.R.getD (bentI t a) rowZ).V.length ≤ _
              omega
          · split
            · refine ⟨?_, by show t.R.length ≤ _; omega, fun i => by have := h3 i; show (t.R.getD i rowZ).V.length ≤ _; omega⟩
              show (t.S ++ _).length ≤ _
              rw [List.length_append, List.length_replicate]; omega
            · refine ⟨by show t.S.length ≤ _; omega, ?_, app_bd h3 fun x hx => ?_⟩
              · show (t.R ++ [_]).length ≤ _
                rw [List.length_append, List.length_singleton]; omega
              · rw [List.mem_singleton.1 hx]; omega
abbrev tabZ : Tab := ⟨[], []⟩
end Go.Rl
namespace Go.Proofs.Ytfiecjpoabnfnaa
open Go.V Go.RowKit Go.L Go.Lx Go.Rl
set_option maxRecDepth 10000
set_option maxHeartbeats 4000000
abbrev tabA (t : Tab) : AV := tabV t.S t.R
theorem rbent_ok (t : Tab) (h : Bd t 16 80 16) (a : Int) (ha : I64 a) (hh : Int) (hhh : I64 hh) (b : Int) (hb : I64 b) : Ok Try.prog 7 [] [] (.pair (tabA t) (.pair (.int .i64 a) (.pair (.int .i64 hh) (.pair (.int .i64 b) .nul)))) (fun r h' => r = tabA (bent t a hh b) ∧ h' = []) := by
  obtain ⟨S, R⟩ := t
  obtain ⟨h1, h2, h3⟩ := h
  by_cases hR : R.length = 0
  · exact bent_a S R h1 h2 h3 a ha hh hhh b hb (.inr hR)
  · by_cases h4 : aroundI hh 7 = 2 ∨ aroundI hh 7 = 3
    · exact bent_b S R h1 h2 h3 a ha hh hhh b hb h4 (by omega)
    · exact bent_a S R h1 h2 h3 a ha hh hhh b hb (.inl (by omega))
theorem tdiv7_i64 {a : Int} (h : I64 a) : I64 (Int.tdiv a 7) := by
  unfold I64 at *
  rcases Int.le_total 0 a with h0 | h0
  · rw [Int.tdiv_eq_ediv_of_nonneg h0]; constructor <;> omega
  · have e : Int.tdiv a 7 = -((-a) / 7) := by
      rw [show a = -(-a) by omega, Int.neg_tdiv, Int.tdiv_eq_ediv_of_nonneg (by omega), Int.neg_neg]
    rw [e]; constructor <;> omega
abbrev tabsV (L : List Tab) : AV := .rsl false 4 2 (fun i => tabA (L.getD i tabZ))
theorem viewN_tabs {H : Asc} {bor D : Nat → Prop} {id : Nat} {l : List Tab} (h : get? H id = some (.arr 4 2 (fun i => tabA (l.getD i tabZ)))) (hb : bor id) : ViewN H bor D (tabsV l) (.sl id [] 2 0 4) :=
  ViewN.sl h rfl trivial (by omega) rfl hb fun i hi => by rw [Nat.zero_add]; exact .rel (NoId.self NI_)
theorem pers_le (S : List Int) (R : List Row) : (pers ⟨S, R⟩).length ≤ R.length := by
  unfold pers
  split
  · exact Nat.le_of_eq ((srt_len _).trans (ps_len _))
  · exact Nat.zero_le _
theorem woR_bd {R : List Row} {v : Nat} (h : ∀ i, (R.getD i rowZ).V.length ≤ v) (p : Int) (k : Nat) : ((woR R p).getD k rowZ).V.length ≤ v := by
  rcases Nat.lt_or_ge k (woR R p).length with hk | hk
  · have hm : (woR R p).getD k rowZ ∈ woR R p := getD_mem hk
    obtain ⟨j, hj, e⟩ := (mem_getD (d := rowZ)).1 (List.mem_filter.1 hm).1
    rw [← e]; exact h j
  · rw [List.getD_eq_getElem?_getD, List.getElem?_eq_none hk]; exact Nat.zero_le _
theorem rtables_ok (l : List Int) (hl : IOk l) (a : Int) (ha : I64 a) (hw : Int) (hhw : I64 hw) (b : Int) (hb0 : I64 b) (pp : Int) (hpp : I64 pp) : Ok Try.prog 3 [] [] (.pair (liV l) (.pair (.int .i64 a) (.pair (.int .i64 hw) (.pair (.int .i64 b) (.pair (.int .i64 pp) .nul))))) (fun r h' => r = .bool true ∧ h' = []) := by
  have cm := made_ok l hl
  have hok := made_fine l
  have hbd0 : Bd (made l) 3 10 8 := ⟨(madeS_bd l).2, made_len l, fun k => madeTo_fit (l := l) ⟨by have := madeS_bd l; omega, madeS_ok l⟩ _ k⟩
  generalize made l = t at *
  have hbd1 := bent_bd hbd0 a hw b
  have cb1 := rbent_ok t ⟨by have := hbd0.s; omega, by have := hbd0.r; omega, fun i => by have := hbd0.v i; omega⟩ a ha hw hhw b hb0
  generalize bent t a hw b = t1 at *
  have hw7 := tdiv7_i64 hhw
  have hw7w := wrap_i64 hw7
  have hbd2 := bent_bd hbd1 b (IntKind.i64.wrap (Int.tdiv hw 7)) a
  have cb2 := rbent_ok t1 ⟨by have := hbd1.s; omega, by have := hbd1.r; omega, fun i => by have := hbd1.v i; omega⟩ b hb0 (IntKind.i64.wrap (Int.tdiv hw 7)) (by rw [hw7w]; exact hw7) a ha
  generalize bent t1 b (IntKind.i64.wrap (Int.tdiv hw 7)) a = t2 at *
  unfold I64 at hw7
  have cq := lAround_ok pp 42 hpp
  generalize aroundI pp 42 = q at *
  have hbd : ∀ i, Bd (([t, t1, t2, tabZ] : List Tab).getD i tabZ) 16 80 16 := fun i => by
    rcases i with _ | _ | _ | i
    · exact ⟨by have := hbd0.s; show t.S.length ≤ _; omega, by have := hbd0.r; show t.R.length ≤ _; omega, fun i => by have := hbd0.v i; show (t.R.getD i rowZ).V.length ≤ _; omega⟩
    · exact ⟨by have := hbd1.s; show t1.S.length ≤ _; omega, by have := hbd1.r; show t1.R.length ≤ _; omega, fun i => by have := hbd1.v i; show (t1.R.getD i rowZ).V.length ≤ _; omega⟩
    · exact ⟨by have := hbd2.s; show t2.S.length ≤ _; omega, by have := hbd2.r; show t2.R.length ≤ _; omega, fun i => by have := hbd2.v i; show (t2.R.getD i rowZ).V.length ≤ _; omega⟩
    · rcases i with _ | i <;> exact ⟨Nat.zero_le _, Nat.zero_le _, fun i => Nat.zero_le _⟩
  have cv := rlives_ok
  have co0 := own_ok t.S t.R (by have := hbd0.r; omega)
  have cv0 := valid_ok t.S t.R (by have := hbd0.s; omega) (by have := hbd0.r; omega) (fun i => by have := hbd0.v i; omega)
  replace hok : okE ⟨t.S, t.R⟩ = 0 := hok
  rw [hok] at cv0
  clear hbd0 hbd1 hbd2 hok
  refine Ok.of_vcC tt_ok Try.func3 rfl rfl (by show 5 ≤ _; decide) 0 (hlt_ok (by rfl)) fun c0 => ?_
  repeat' (first | (refine SS_ ?_) | (refine VC.drawm (id := 3) [(0, 0), (1, 0), (2, 0), (3, 0), (4, 0), (5, 16), (6, 0), (7, 124), (8, 0), (9, 511)] [10] (by rfl) (by kernel_rfl) (by rfl) ?_) | (refine VC.drawn2 (id := 3) [(0, 0), (1, 0), (2, 0), (3, 0), (4, 0), (5, 16), (6, 0), (7, 124), (8, 0), (9, 511)] [10] (by rfl) (by kernel_rfl) (by rfl) (by rfl) ?_) | (refine Seq.callp false (cm) Try.func6 GOk.nil subG.nil (by rfl) (by rfl) rfl rfl rfl rfl rfl (by rfl) rfl VW_ NI_ NI_ FR_ ?_) | (refine Seq.callp false (cb1) Try.func7 GOk.nil subG.nil (by rfl) (by rfl) rfl rfl rfl rfl rfl (by rfl) rfl VW_ NI_ NI_ FR_ ?_) | (refine DSeq.callp false (cb2) Try.func7 GOk.nil subG.nil (by rfl) (fastE (by rfl)) (fastH (by rfl)) (by rfl) (by rfl) rfl rfl rfl rfl rfl (by rfl) (by rfl) VW_ NI_ NI_ FR_ ?_) | (refine DSeq.ev0 false tt_ok (by rfl) (fastE (by rfl)) (fastH (by rfl)) (by rfl) (by (first | exact trivial | exact u8_in _ rfl | exact u32_in _ rfl | ((with_reducible refine AllP.guard ?_); simp only [AllP, inI, fitV, maxK, inK, inbL, inb, List.append, List.cons_append, List.nil_append, true_and, and_true]; first | done | omega))) (by rfl) rfl (by rfl) ?_) | (refine Seq.lit (by rfl) (by rfl) LT2_ ?_) | (refine VC.litT (by rfl) LTR_ ?_) | (refine VC.litF (by rfl) LFA_ ?_) | (refine DD_ ?_) | (refine DSeq.lit2 (by rfl) (by rfl) (by rfl) LT2_ (by rfl) ?_) | ((refine retQ_ok (by rfl) [] nil_sub ⟨?_, rfl⟩); try rfl) | (refine Seq.litC (by rfl) (by rfl) (fun hb => ?_) (fun hb => ?_) <;> (fail_if_success (with_reducible have := litT_ hb)) <;> (fail_if_success (with_reducible have := litF_ hb)) <;> (try simp only [decide_eq_true_eq, decide_eq_false_iff_not, Bool.not_eq_true', Bool.not_eq_false', Bool.or_eq_true, Bool.or_eq_false_iff, Bool.and_eq_true, Bool.and_eq_false_iff] at hb) <;> (try (exfalso; first | omega | (cases hb; done)))) | (refine VC.cond (by rfl) (fun hb => ?_) (fun hb => ?_) <;> (fail_if_success (with_reducible have := litT_ hb)) <;> (fail_if_success (with_reducible have := litF_ hb)) <;> (try simp only [decide_eq_true_eq, decide_eq_false_iff_not, Bool.not_eq_true', Bool.not_eq_false', Bool.or_eq_true, Bool.or_eq_false_iff, Bool.and_eq_true, Bool.and_eq_false_iff] at hb) <;> (try (exfalso; first | omega | (cases hb; done)))) | (refine DSeq.litC2 (by rfl) (by rfl) (by rfl) (by rfl) (by rfl) (fun hb => ?_) (fun hb => ?_) <;> (fail_if_success (with_reducible have := litT_ hb)) <;> (fail_if_success (with_reducible have := litF_ hb)) <;> (try simp only [decide_eq_true_eq, decide_eq_false_iff_not, Bool.not_eq_true', Bool.not_eq_false', Bool.or_eq_true, Bool.or_eq_false_iff, Bool.and_eq_true, Bool.and_eq_false_iff] at hb) <;> (try (exfalso; first | omega | (cases hb; done)))))
  refine VC.conv (s' := ⟨[(14, .int .i64 0), (13, .sl 2 [] 2 0 4), (11, .ptr 0 []), (4, .int .i64 pp)], [(0, tabA t), (2, .arr 4 2 (fun i => bif Nat.beq i 3 then .pair nilS (.pair nilS .nul) else tabA (([t, t1, t2, tabZ] : List Tab).getD i tabZ)))], [], 3⟩) (by
    refine Sim.less [] (by rfl) ?_ ?_ <;> (repeat' (first | exact EnvLe.nil | exact HeapLe.nil | with_reducible apply EnvLe.cons | with_reducible apply HeapLe.cons | (with_reducible refine RelA.int ?_; first | (refine Keep.mk ?_; first | with_reducible rfl | omega | decide) | skip) | exact rfl | exact ⟨rfl, rfl⟩ | (with_reducible refine RelA.rsl ?_; intro i hi) | (with_reducible refine RelA.arr ?_; intro i hi) | with_reducible refine RelA.pair ?_ ?_ | with_reducible refine RelA.rptr ?_ | (with_reducible refine RelA.rslw ?_; intro i hi) | (refine RelA.rsl ?_; intro i hi) | (refine RelA.rslw ?_; intro i hi) | (refine RelA.arr ?_; intro i hi) | refine RelA.pair ?_ ?_ | refine RelA.tup ?_ | ((first | refine RelA.rslL (by first | rfl | ((try simp only [List.length_take, List.length_drop, List.length_append, List.length_cons, List.length_nil, List.length_map, List.length_range]); omega)) ?_ | refine RelA.rslT (by first | rfl | ((try simp only [List.length_take, List.length_drop, List.length_append, List.length_cons, List.length_nil, List.length_map, List.length_range]); omega)) ?_ | refine RelA.arrL (by first | rfl | ((try simp only [List.length_take, List.length_drop, List.length_append, List.length_cons, List.length_nil, List.length_map, List.length_range]); omega)) ?_); intro i hi; (try simp only [List.length_take, List.length_drop] at hi); (try simp (disch := omega) only [getD_take, getD_drop, Nat.zero_add, Int.toNat_natCast])) | exact RelA.bif_int | refine RelA.fn ?_ ?_ | exact NoId.self (by first | ((repeat' (first | exact trivial | exact rfl | refine NoFr.bif ?_ ?_ | refine NoId.bif ?_ ?_ | refine AllFr.bif ?_ ?_ | (intro i hi) | (refine ⟨?_, ?_⟩) | (intro e; cases e; done))); done) | fail))) <;> (try with_reducible refine Keep.mk ?_)
    rcases four_or hi with rfl | rfl | rfl | rfl
    · show RelA _ _ (tabA t) (tabA t); exact NoId.self NI_
    · show RelA _ _ (tabA t1) (tabA t1); exact NoId.self NI_
    · show RelA _ _ (tabA t2) (tabA t2); exact NoId.self NI_
    · exact R_) ?_
  refine VC.conv (Sim.impO 2 (v := .arr 4 2 (fun i => tabA (([t, t1, t2, tabZ] : List Tab).getD i tabZ))) (by rfl) (Imp.arr rfl fun i hi => by
    rcases four_or hi with rfl | rfl | rfl | rfl
    · exact Imp.of_eq rfl
    · exact Imp.of_eq rfl
    · exact Imp.of_eq rfl
    · exact Imp.pair Imp.nil (Imp.pair Imp.nil (Imp.refl _))) (by rfl) (by rfl)) ?_
  generalize ([t, t1, t2, tabZ] : List Tab) = TL at *
  refine VC.conv (Sim.stillN (e' := [(14, .int .i64 0), (13, tabsV TL), (11, .ptr 0 []), (4, .int .i64 pp)]) (h' := [(0, tabA t)]) [2] (by rfl) (by repeat' (first | exact HeapN.nil | refine HeapN.cons (by rfl) (.rel R_) (by rfl) ?_)) (EnvN.cons (by rfl) (.rel R_) (EnvN.cons (by rfl) (viewN_tabs (by rfl) rfl) (by repeat' (first | exact EnvN.nil | refine EnvN.cons (by rfl) (.rel R_) ?_))))) ?_
  refine VC.loop (fun i : Nat => ⟨[(14, .int .i64 (i : Nat)), (13, tabsV TL), (11, .ptr 0 []), (4, .int .i64 pp)], [(0, tabA t)], [], 3⟩) (fun i => i ≤ 4) (fun i => 4 - i) 0 (by omega) (Sim.less [] (by rfl) R_ R_) fun i hi => ?_
  by_cases hil : i < 4
  · have hX := hbd i
    have hkk : TL.getD ((i : Nat) : Int).toNat tabZ = TL.getD i tabZ := by rw [Int.toNat_natCast]
    rw [← hkk] at hX
    clear hkk hbd
    have x1 := hX.s
    have x2 := hX.r
    have x3 := hX.v
    clear hX
    have d1 := own_ok (TL.getD ((i : Nat) : Int).toNat tabZ).S (TL.getD ((i : Nat) : Int).toNat tabZ).R (by omega)
    have d2 := valid_ok (TL.getD ((i : Nat) : Int).toNat tabZ).S (TL.getD ((i : Nat) : Int).toNat tabZ).R (by omega) (by omega) (fun i => by have := x3 i; omega)
    have d3 := rvalid_ok (TL.getD ((i : Nat) : Int).toNat tabZ).S (TL.getD ((i : Nat) : Int).toNat tabZ).R (by omega) (by omega) (fun i => by have := x3 i; omega)
    have d4 := persons_ok (TL.getD ((i : Nat) : Int).toNat tabZ).S (TL.getD ((i : Nat) : Int).toNat tabZ).R (by omega) (by omega) (fun i => by have := x3 i; omega)
    have d5 := rpersons_ok (TL.getD ((i : Nat) : Int).toNat tabZ).S (TL.getD ((i : Nat) : Int).toNat tabZ).R (by omega) (by omega) (fun i => by have := x3 i; omega)
    have hpl := pers_le (TL.getD ((i : Nat) : Int).toNat tabZ).S (TL.getD ((i : Nat) : Int).toNat tabZ).R
    generalize okE ⟨(TL.getD ((i : Nat) : Int).toNat tabZ).S, (TL.getD ((i : Nat) : Int).toNat tabZ).R⟩ = E at *
    generalize pers ⟨(TL.getD ((i : Nat) : Int).toNat tabZ).S, (TL.getD ((i : Nat) : Int).toNat tabZ).R⟩ = P at *
    have d6 := lSame_ok P P (by omega) (by omega)
    rw [decide_eq_true rfl] at d6
    repeat' (first | (refine SS_ ?_) | (refine VC.drawm (id := 8) [(0, 0), (1, 1), (2, 0), (3, 0), (4, 12), (5, 28), (6, 63), (7, 127), (8, 255), (9, 511), (10, 1023), (11, 511), (12, 511), (13, 6655), (14, 14847), (15, 32767), (16, 65535), (17, 131071), (18, 262143)] [] (by rfl) (by kernel_rfl) (by rfl) ?_) | (refine VC.drawn2 (id := 8) [(0, 0), (1, 1), (2, 0), (3, 0), (4, 12), (5, 28), (6, 63), (7, 127), (8, 255), (9, 511), (10, 1023), (11, 511), (12, 511), (13, 6655), (14, 14847), (15, 32767), (16, 65535), (17, 131071), (18, 262143)] [] (by rfl) (by kernel_rfl) (by rfl) (by rfl) ?_) | (refine Seq.callp false (d1) Try.func8 GOk.nil subG.nil (by rfl) (by rfl) rfl rfl rfl rfl rfl (by rfl) rfl VW_ NI_ NI_ FR_ ?_) | (refine DSeq.callp false (d2) Try.func9 GOk.nil subG.nil (by rfl) (fastE (by rfl)) (fastH (by rfl)) (by rfl) (by rfl) rfl rfl rfl rfl rfl (by rfl) (by rfl) VW_ NI_ NI_ FR_ ?_) | (refine DSeq.callp false (d3) Try.func10 GOk.nil subG.nil (by rfl) (fastE (by rfl)) (fastH (by rfl)) (by rfl) (by rfl) rfl rfl rfl rfl rfl (by rfl) (by rfl) VW_ NI_ NI_ FR_ ?_) | (refine DSeq.callp false (d4) Try.func12 GOk.nil subG.nil (by rfl) (fastE (by rfl)) (fastH (by rfl)) (by rfl) (by rfl) rfl rfl rfl rfl rfl (by rfl) (by rfl) VW_ NI_ NI_ FR_ ?_) | (refine DSeq.callp false (d5) Try.func13 GOk.nil subG.nil (by rfl) (fastE (by rfl)) (fastH (by rfl)) (by rfl) (by rfl) rfl rfl rfl rfl rfl (by rfl) (by rfl) VW_ NI_ NI_ FR_ ?_) | (refine DSeq.callp false (d6) Try.func11 GOk.nil subG.nil (by rfl) (fastE (by rfl)) (fastH (by rfl)) (by rfl) (by rfl) rfl rfl rfl rfl rfl (by rfl) (by rfl) VW_ NI_ NI_ FR_ ?_) | (refine Seq.callp false (cq) Try.func14 GOk.nil subG.nil (by rfl) (by rfl) rfl rfl rfl rfl rfl (by rfl) rfl VW_ NI_ NI_ FR_ ?_) | (refine Seq.lit (by rfl) (by rfl) LT2_ ?_) | (refine VC.litT (by rfl) LTR_ ?_) | (refine VC.litF (by rfl) LFA_ ?_) | (refine DD_ ?_) | (refine DSeq.lit2 (by rfl) (by rfl) (by rfl) LT2_ (by rfl) ?_) | ((refine retQ_ok (by rfl) [] nil_sub ⟨?_, rfl⟩); try rfl) | (refine Seq.litC (by rfl) (by rfl) (fun hb => ?_) (fun hb => ?_) <;> (fail_if_success (with_reducible have := litT_ hb)) <;> (fail_if_success (with_reducible have := litF_ hb)) <;> (try simp only [decide_eq_true_eq, decide_eq_false_iff_not, Bool.not_eq_true', Bool.not_eq_false', Bool.or_eq_true, Bool.or_eq_false_iff, Bool.and_eq_true, Bool.and_eq_false_iff] at hb) <;> (try (exfalso; first | omega | (cases hb; done)))) | (refine VC.cond (by rfl) (fun hb => ?_) (fun hb => ?_) <;> (fail_if_success (with_reducible have := litT_ hb)) <;> (fail_if_success (with_reducible have := litF_ hb)) <;> (try simp only [decide_eq_true_eq, decide_eq_false_iff_not, Bool.not_eq_true', Bool.not_eq_false', Bool.or_eq_true, Bool.or_eq_false_iff, Bool.and_eq_true, Bool.and_eq_false_iff] at hb) <;> (try (exfalso; first | omega | (cases hb; done)))) | (refine DSeq.litC2 (by rfl) (by rfl) (by rfl) (by rfl) (by rfl) (fun hb => ?_) (fun hb => ?_) <;> (fail_if_success (with_reducible have := litT_ hb)) <;> (fail_if_success (with_reducible have := litF_ hb)) <;> (try simp only [decide_eq_true_eq, decide_eq_false_iff_not, Bool.not_eq_true', Bool.not_eq_false', Bool.or_eq_true, Bool.or_eq_false_iff, Bool.and_eq_true, Bool.and_eq_false_iff] at hb) <;> (try (exfalso; first | omega | (cases hb; done)))))
    refine VC.conv (s' := ⟨[(17, .int .i64 0), (16, .sl 4 [] 1 0 2), (15, .ptr 3 []), (14, .int .i64 (i : Nat)), (13, tabsV TL), (11, .ptr 0 []), (4, .int .i64 pp)], [(0, tabA t), (3, tabA (TL.getD ((i : Nat) : Int).toNat tabZ)), (4, liO [pp, q])], [], 5⟩) (by
      refine Sim.less [] (by rfl) ?_ ?_ <;> (repeat' (first | exact EnvLe.nil | exact HeapLe.nil | with_reducible apply EnvLe.cons | with_reducible apply HeapLe.cons | (with_reducible refine RelA.int ?_; first | (refine Keep.mk ?_; first | with_reducible rfl | omega | decide) | skip) | exact rfl | exact ⟨rfl, rfl⟩ | (with_reducible refine RelA.rsl ?_; intro i hi) | (with_reducible refine RelA.arr ?_; intro i hi) | with_reducible refine RelA.pair ?_ ?_ | with_reducible refine RelA.rptr ?_ | (with_reducible refine RelA.rslw ?_; intro i hi) | (refine RelA.rsl ?_; intro i hi) | (refine RelA.rslw ?_; intro i hi) | (refine RelA.arr ?_; intro i hi) | refine RelA.pair ?_ ?_ | refine RelA.tup ?_ | ((first | refine RelA.rslL (by first | rfl | ((try simp only [List.length_take, List.length_drop, List.length_append, List.length_cons, List.length_nil, List.length_map, List.length_range]); omega)) ?_ | refine RelA.rslT (by first | rfl | ((try simp only [List.length_take, List.length_drop, List.length_append, List.length_cons, List.length_nil, List.length_map, List.length_range]); omega)) ?_ | refine RelA.arrL (by first | rfl | ((try simp only [List.length_take, List.length_drop, List.length_append, List.length_cons, List.length_nil, List.length_map, List.length_range]); omega)) ?_); intro i hi; (try simp only [List.length_take, List.length_drop] at hi); (try simp (disch := omega) only [getD_take, getD_drop, Nat.zero_add, Int.toNat_natCast])) | exact RelA.bif_int | refine RelA.fn ?_ ?_ | exact NoId.self (by first | ((repeat' (first | exact trivial | exact rfl | refine NoFr.bif ?_ ?_ | refine NoId.bif ?_ ?_ | refine AllFr.bif ?_ ?_ | (intro i hi) | (refine ⟨?_, ?_⟩) | (intro e; cases e; done))); done) | fail))) <;> (try with_reducible refine Keep.mk ?_)
      all_goals ((try simp only [List.length_cons, List.length_nil] at hi); rcases (by omega : i = 0 ∨ i = 1) with rfl | rfl <;> exact rfl)) ?_
    refine VC.conv (Sim.stillN (e' := [(17, .int .i64 0), (16, .rsl false 2 1 (fun i => .int .i64 (([pp, q] : List Int).getD i 0))), (15, .ptr 3 []), (14, .int .i64 (i : Nat)), (13, tabsV TL), (11, .ptr 0 []), (4, .int .i64 pp)]) (h' := [(0, tabA t), (3, tabA (TL.getD ((i : Nat) : Int).toNat tabZ))]) [4] (by rfl) (by repeat' (first | exact HeapN.nil | refine HeapN.cons (by rfl) (.rel R_) (by rfl) ?_)) (EnvN.cons (by rfl) (.rel R_) (EnvN.cons (by rfl) (viewN_li' (l := [pp, q]) (by rfl) rfl rfl) (by repeat' (first | exact EnvN.nil | refine EnvN.cons (by rfl) (.rel R_) ?_))))) ?_
    refine VC.loop (fun k : Nat => ⟨[(17, .int .i64 (k : Nat)), (16, .rsl false 2 1 (fun i => .int .i64 (([pp, q] : List Int).getD i 0))), (15, .ptr 3 []), (14, .int .i64 (i : Nat)), (13, tabsV TL), (11, .ptr 0 []), (4, .int .i64 pp)], [(0, tabA t), (3, tabA (TL.getD ((i : Nat) : Int).toNat tabZ))], [], 5⟩) (fun k => k ≤ 2) (fun k => 2 - k) 0 (by omega) (Sim.less [] (by rfl) R_ R_) fun k hk => ?_
    by_cases hkl : k < 2
    · have hpl2 : (woR (TL.getD ((i : Nat) : Int).toNat tabZ).R (([pp, q] : List Int).getD ((k : Nat) : Int).toNat 0)).length ≤ 80 := Nat.le_trans (List.length_filter_le _ _) x2
      have x4 := woR_bd x3 (([pp, q] : List Int).getD ((k : Nat) : Int).toNat 0)
      have e1 := without_ok (TL.getD ((i : Nat) : Int).toNat tabZ).S (TL.getD ((i : Nat) : Int).toNat tabZ).R (by omega) (([pp, q] : List Int).getD ((k : Nat) : Int).toNat 0)
      have e2 := plain_ok (TL.getD ((i : Nat) : Int).toNat tabZ).S (woR (TL.getD ((i : Nat) : Int).toNat tabZ).R (([pp, q] : List Int).getD ((k : Nat) : Int).toNat 0)) (by omega)
      have e3 := rwithout_ok (TL.getD ((i : Nat) : Int).toNat tabZ).S (TL.getD ((i : Nat) : Int).toNat tabZ).R (by omega) (([pp, q] : List Int).getD ((k : Nat) : Int).toNat 0)
      have e4 := same_ok (TL.getD ((i : Nat) : Int).toNat tabZ).S (TL.getD ((i : Nat) : Int).toNat tabZ).S (woR (TL.getD ((i : Nat) : Int).toNat tabZ).R (([pp, q] : List Int).getD ((k : Nat) : Int).toNat 0)) (woR (TL.getD ((i : Nat) : Int).toNat tabZ).R (([pp, q] : List Int).getD ((k : Nat) : Int).toNat 0)) (by omega) (by omega) (by omega) (by omega) (fun i => by have := x4 i; omega) (fun i => by have := x4 i; omega)
      rw [decide_eq_true ⟨rfl, rfl⟩] at e4
      have e5 := plain_ok (TL.getD ((i : Nat) : Int).toNat tabZ).S (TL.getD ((i : Nat) : Int).toNat tabZ).R (by omega)
      have e6 := same_ok (TL.getD ((i : Nat) : Int).toNat tabZ).S (TL.getD ((i : Nat) : Int).toNat tabZ).S (TL.getD ((i : Nat) : Int).toNat tabZ).R (TL.getD ((i : Nat) : Int).toNat tabZ).R (by omega) (by omega) (by omega) (by omega) (fun i => by have := x3 i; omega) (fun i => by have := x3 i; omega)
      rw [decide_eq_true ⟨rfl, rfl⟩] at e6
      clear x3 x4 d1 d2 d3 d4 d5 d6 cm cb1 cb2 cq cv co0 cv0
      repeat' (first | (refine SS_ ?_) | (refine VC.drawm (id := 14) [(0, 0), (1, 0), (2, 0), (3, 6), (4, 14), (5, 31), (6, 63), (7, 0), (8, 0), (9, 384), (10, 896), (11, 0), (12, 0), (13, 6144), (14, 14336), (15, 32767), (16, 65535), (17, 131071), (18, 262143), (19, 524287), (20, 1048575), (21, 524287), (22, 524287), (23, 6815743), (24, 15204351), (25, 33554431), (26, 67108863), (27, 134217727)] [] (by rfl) (by kernel_rfl) (by rfl) ?_) | (refine VC.drawn2 (id := 14) [(0, 0), (1, 0), (2, 0), (3, 6), (4, 14), (5, 31), (6, 63), (7, 0), (8, 0), (9, 384), (10, 896), (11, 0), (12, 0), (13, 6144), (14, 14336), (15, 32767), (16, 65535), (17, 131071), (18, 262143), (19, 524287), (20, 1048575), (21, 524287), (22, 524287), (23, 6815743), (24, 15204351), (25, 33554431), (26, 67108863), (27, 134217727)] [] (by rfl) (by kernel_rfl) (by rfl) (by rfl) ?_) | (refine DSeq.callp false (e1) Try.func17 GOk.nil subG.nil (by rfl) (fastE (by rfl)) (fastH (by rfl)) (by rfl) (by rfl) rfl rfl rfl rfl rfl (by rfl) (by rfl) VW_ NI_ NI_ FR_ ?_) | (refine DSeq.callp false (e2) Try.func16 GOk.nil subG.nil (by rfl) (fastE (by rfl)) (fastH (by rfl)) (by rfl) (by rfl) rfl rfl rfl rfl rfl (by rfl) (by rfl) VW_ NI_ NI_ FR_ ?_) | (refine DSeq.callp false (e3) Try.func18 GOk.nil subG.nil (by rfl) (fastE (by rfl)) (fastH (by rfl)) (by rfl) (by rfl) rfl rfl rfl rfl rfl (by rfl) (by rfl) VW_ NI_ NI_ FR_ ?_) | (refine DSeq.callp false (e4) Try.func15 GOk.nil subG.nil (by rfl) (fastE (by rfl)) (fastH (by rfl)) (by rfl) (by rfl) rfl rfl rfl rfl rfl (by rfl) (by rfl) VW_ NI_ NI_ FR_ ?_) | (refine DSeq.callp false (e5) Try.func16 GOk.nil subG.nil (by rfl) (fastE (by rfl)) (fastH (by rfl)) (by rfl) (by rfl) rfl rfl rfl rfl rfl (by rfl) (by rfl) VW_ NI_ NI_ FR_ ?_) | (refine DSeq.callp false (e6) Try.func15 GOk.nil subG.nil (by rfl) (fastE (by rfl)) (fastH (by rfl)) (by rfl) (by rfl) rfl rfl rfl rfl rfl (by rfl) (by rfl) VW_ NI_ NI_ FR_ ?_) | (refine Seq.lit (by rfl) (by rfl) LT2_ ?_) | (refine VC.litT (by rfl) LTR_ ?_) | (refine VC.litF (by rfl) LFA_ ?_) | (refine DD_ ?_) | (refine DSeq.lit2 (by rfl) (by rfl) (by rfl) LT2_ (by rfl) ?_) | ((refine retQ_ok (by rfl) [] nil_sub ⟨?_, rfl⟩); try rfl) | (refine Seq.litC (by rfl) (by rfl) (fun hb => ?_) (fun hb => ?_) <;> (fail_if_success (with_reducible have := litT_ hb)) <;> (fail_if_success (with_reducible have := litF_ hb)) <;> (try simp only [decide_eq_true_eq, decide_eq_false_iff_not, Bool.not_eq_true', Bool.not_eq_false', Bool.or_eq_true, Bool.or_eq_false_iff, Bool.and_eq_true, Bool.and_eq_false_iff] at hb) <;> (try (exfalso; first | omega | (cases hb; done)))) | (refine VC.cond (by rfl) (fun hb => ?_) (fun hb => ?_) <;> (fail_if_success (with_reducible have := litT_ hb)) <;> (fail_if_success (with_reducible have := litF_ hb)) <;> (try simp only [decide_eq_true_eq, decide_eq_false_iff_not, Bool.not_eq_true', Bool.not_eq_false', Bool.or_eq_true, Bool.or_eq_false_iff, Bool.and_eq_true, Bool.and_eq_false_iff] at hb) <;> (try (exfalso; first | omega | (cases hb; done)))) | (refine DSeq.litC2 (by rfl) (by rfl) (by rfl) (by rfl) (by rfl) (fun hb => ?_) (fun hb => ?_) <;> (fail_if_success (with_reducible have := litT_ hb)) <;> (fail_if_success (with_reducible have := litF_ hb)) <;> (try simp only [decide_eq_true_eq, decide_eq_false_iff_not, Bool.not_eq_true', Bool.not_eq_false', Bool.or_eq_true, Bool.or_eq_false_iff, Bool.and_eq_true, Bool.and_eq_false_iff] at hb) <;> (try (exfalso; first | omega | (cases hb; done)))))
      exact ⟨k + 1, by omega, by omega, by refine Sim.less [] (by rfl) ?_ ?_ <;> (repeat' (first | exact EnvLe.nil | exact HeapLe.nil | with_reducible apply EnvLe.cons | with_reducible apply HeapLe.cons | (with_reducible refine RelA.int ?_; first | (refine Keep.mk ?_; first | with_reducible rfl | omega | decide) | skip) | exact rfl | exact ⟨rfl, rfl⟩ | (with_reducible refine RelA.rsl ?_; intro i hi) | (with_reducible refine RelA.arr ?_; intro i hi) | with_reducible refine RelA.pair ?_ ?_ | with_reducible refine RelA.rptr ?_ | (with_reducible refine RelA.rslw ?_; intro i hi) | (refine RelA.rsl ?_; intro i hi) | (refine RelA.rslw ?_; intro i hi) | (refine RelA.arr ?_; intro i hi) | refine RelA.pair ?_ ?_ | refine RelA.tup ?_ | ((first | refine RelA.rslL (by first | rfl | ((try simp only [List.length_take, List.length_drop, List.length_append, List.length_cons, List.length_nil, List.length_map, List.length_range]); omega)) ?_ | refine RelA.rslT (by first | rfl | ((try simp only [List.length_take, List.length_drop, List.length_append, List.length_cons, List.length_nil, List.length_map, List.length_range]); omega)) ?_ | refine RelA.arrL (by first | rfl | ((try simp only [List.length_take, List.length_drop, List.length_append, List.length_cons, List.length_nil, List.length_map, List.length_range]); omega)) ?_); intro i hi; (try simp only [List.length_take, List.length_drop] at hi); (try simp (disch := omega) only [getD_take, getD_drop, Nat.zero_add, Int.toNat_natCast])) | exact RelA.bif_int | refine RelA.fn ?_ ?_ | exact NoId.self (by first | ((repeat' (first | exact trivial | exact rfl | refine NoFr.bif ?_ ?_ | refine NoId.bif ?_ ?_ | refine AllFr.bif ?_ ?_ | (intro i hi) | (refine ⟨?_, ?_⟩) | (intro e; cases e; done))); done) | fail))) <;> (try with_reducible refine Keep.mk ?_)⟩
    · obtain rfl : k = 2 := by omega
      repeat' (first | (refine SS_ ?_) | (done) | (refine Seq.lit (by rfl) (by rfl) LT2_ ?_) | (refine VC.litT (by rfl) LTR_ ?_) | (refine VC.litF (by rfl) LFA_ ?_) | (refine DD_ ?_) | (refine DSeq.lit2 (by rfl) (by rfl) (by rfl) LT2_ (by rfl) ?_) | ((refine retQ_ok (by rfl) [] nil_sub ⟨?_, rfl⟩); try rfl) | (refine Seq.litC (by rfl) (by rfl) (fun hb => ?_) (fun hb => ?_) <;> (fail_if_success (with_reducible have := litT_ hb)) <;> (fail_if_success (with_reducible have := litF_ hb)) <;> (try simp only [decide_eq_true_eq, decide_eq_false_iff_not, Bool.not_eq_true', Bool.not_eq_false', Bool.or_eq_true, Bool.or_eq_false_iff, Bool.and_eq_true, Bool.and_eq_false_iff] at hb) <;> (try (exfalso; first | omega | (cases hb; done)))) | (refine VC.cond (by rfl) (fun hb => ?_) (fun hb => ?_) <;> (fail_if_success (with_reducible have := litT_ hb)) <;> (fail_if_success (with_reducible have := litF_ hb)) <;> (try simp only [decide_eq_true_eq, decide_eq_false_iff_not, Bool.not_eq_true', Bool.not_eq_false', Bool.or_eq_true, Bool.or_eq_false_iff, Bool.and_eq_true, Bool.and_eq_false_iff] at hb) <;> (try (exfalso; first | omega | (cases hb; done)))) | (refine DSeq.litC2 (by rfl) (by rfl) (by rfl) (by rfl) (by rfl) (fun hb => ?_) (fun hb => ?_) <;> (fail_if_success (with_reducible have := litT_ hb)) <;> (fail_if_success (with_reducible have := litF_ hb)) <;> (try simp only [decide_eq_true_eq, decide_eq_false_iff_not, Bool.not_eq_true', Bool.not_eq_false', Bool.or_eq_true, Bool.or_eq_false_iff, Bool.and_eq_true, Bool.and_eq_false_iff] at hb) <;> (try (exfalso; first | omega | (cases hb; done)))))
      exact ⟨i + 1, by omega, by omega, by refine Sim.less [] (by rfl) ?_ ?_ <;> (repeat' (first | exact EnvLe.nil | exact HeapLe.nil | with_reducible apply EnvLe.cons | with_reducible apply HeapLe.cons | (with_reducible refine RelA.int ?_; first | (refine Keep.mk ?_; first | with_reducible rfl | omega | decide) | skip) | exact rfl | exact ⟨rfl, rfl⟩ | (with_reducible refine RelA.rsl ?_; intro i hi) | (with_reducible refine RelA.arr ?_; intro i hi) | with_reducible refine RelA.pair ?_ ?_ | with_reducible refine RelA.rptr ?_ | (with_reducible refine RelA.rslw ?_; intro i hi) | (refine RelA.rsl ?_; intro i hi) | (refine RelA.rslw ?_; intro i hi) | (refine RelA.arr ?_; intro i hi) | refine RelA.pair ?_ ?_ | refine RelA.tup ?_ | ((first | refine RelA.rslL (by first | rfl | ((try simp only [List.length_take, List.length_drop, List.length_append, List.length_cons, List.length_nil, List.length_map, List.length_range]); omega)) ?_ | refine RelA.rslT (by first | rfl | ((try simp only [List.length_take, List.length_drop, List.length_append, List.length_cons, List.length_nil, List.length_map, List.length_range]); omega)) ?_ | refine RelA.arrL (by first | rfl | ((try simp only [List.length_take, List.length_drop, List.length_append, List.length_cons, List.length_nil, List.length_map, List.length_range]); omega)) ?_); intro i hi; (try simp only [List.length_take, List.length_drop] at hi); (try simp (disch := omega) only [getD_take, getD_drop, Nat.zero_add, Int.toNat_natCast])) | exact RelA.bif_int | refine RelA.fn ?_ ?_ | exact NoId.self (by first | ((repeat' (first | exact trivial | exact rfl | refine NoFr.bif ?_ ?_ | refine NoId.bif ?_ ?_ | refine AllFr.bif ?_ ?_ | (intro i hi) | (refine ⟨?_, ?_⟩) | (intro e; cases e; done))); done) | fail))) <;> (try with_reducible refine Keep.mk ?_)⟩
  · obtain rfl : i = 4 := by omega
    repeat' (first | (refine SS_ ?_) | (refine Seq.callp false (co0) Try.func8 GOk.nil subG.nil (by rfl) (by rfl) rfl rfl rfl rfl rfl (by rfl) rfl VW_ NI_ NI_ FR_ ?_) | (refine Seq.callp false (cv0) Try.func9 GOk.nil subG.nil (by rfl) (by rfl) rfl rfl rfl rfl rfl (by rfl) rfl VW_ NI_ NI_ FR_ ?_) | (refine Seq.callp false (cv) Try.func19 GOk.nil subG.nil (by rfl) (by rfl) rfl rfl rfl rfl rfl (by rfl) rfl VW_ NI_ NI_ FR_ ?_) | (refine Seq.lit (by rfl) (by rfl) LT2_ ?_) | (refine VC.litT (by rfl) LTR_ ?_) | (refine VC.litF (by rfl) LFA_ ?_) | (refine DD_ ?_) | (refine DSeq.lit2 (by rfl) (by rfl) (by rfl) LT2_ (by rfl) ?_) | ((refine retQ_ok (by rfl) [] nil_sub ⟨?_, rfl⟩); try rfl) | (refine Seq.litC (by rfl) (by rfl) (fun hb => ?_) (fun hb => ?_) <;> (fail_if_success (with_reducible have := litT_ hb)) <;> (fail_if_success (with_reducible have := litF_ hb)) <;> (try simp only [decide_eq_true_eq, decide_eq_false_iff_not, Bool.not_eq_true', Bool.not_eq_false', Bool.or_eq_true, Bool.or_eq_false_iff, Bool.and_eq_true, Bool.and_eq_false_iff] at hb) <;> (try (exfalso; first | omega | (cases hb; done)))) | (refine VC.cond (by rfl) (fun hb => ?_) (fun hb => ?_) <;> (fail_if_success (with_reducible have := litT_ hb)) <;> (fail_if_success (with_reducible have := litF_ hb)) <;> (try simp only [decide_eq_true_eq, decide_eq_false_iff_not, Bool.not_eq_true', Bool.not_eq_false', Bool.or_eq_true, Bool.or_eq_false_iff, Bool.and_eq_true, Bool.and_eq_false_iff] at hb) <;> (try (exfalso; first | omega | (cases hb; done)))) | (refine DSeq.litC2 (by rfl) (by rfl) (by rfl) (by rfl) (by rfl) (fun hb => ?_) (fun hb => ?_) <;> (fail_if_success (with_reducible have := litT_ hb)) <;> (fail_if_success (with_reducible have := litF_ hb)) <;> (try simp only [decide_eq_true_eq, decide_eq_false_iff_not, Bool.not_eq_true', Bool.not_eq_false', Bool.or_eq_true, Bool.or_eq_false_iff, Bool.and_eq_true, Bool.and_eq_false_iff] at hb) <;> (try (exfalso; first | omega | (cases hb; done)))))
    (refine retC_mk ([(10, .bool true)]) ([]) 3 (Sim.less [] (by rfl) R_ R_) (retQ_ok (by rfl) ([]) (fun i av h => h) ⟨?_, ?_⟩)) <;> rfl
end Go.Proofs.Ytfiecjpoabnfnaa
