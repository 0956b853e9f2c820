/- JournalGoesOn. -/
import Derived.Test.YtmbldnahcmkpgaaDoorBi
import Derived.Test.YtmbldnahcmkpgaaDoorBj
set_option linter.unusedSimpArgs false
set_option linter.unusedVariables false
namespace Go.Proofs.YtmbldnahcmkpgaaDoor
open Go.V Go.RowKit Go.L Go.Lx Go.Jn Go.Dk
set_option maxRecDepth 20000
set_option maxHeartbeats 4000000
abbrev jX (n : Nat) (D : Disk) (N b : List Int) (T : List Bs) (x : Int) (s : Nat) (h : Bool) : Asc := (4, jrA 0 5 6 7 N b T x s h) :: (5, liO N) :: (6, liO b) :: (7, txO T) :: dD n D
theorem rdL_on {n : Nat} {D : Disk} (hP : D.P = []) (ho : D.off = false) (hl : D.B.length = n) : rdL n D = D.B := ext_getD (by rw [rdL_len, hl]) fun i hi => by
  rw [rdL_len] at hi
  rw [rdL_get hi]
  exact rd_calm hi hP ho
theorem rdL_worn {n : Nat} {W : WM} : rdL n (wornD n W) = List.replicate n zs := ext_getD (by rw [rdL_len, List.length_replicate]) fun i hi => by
  rw [rdL_len] at hi
  rw [rdL_get hi]
  exact rd_calm (D := wornD n W) hi rfl rfl
theorem goes_main (n : Nat) (h1 : 1 ≤ n) (h2 : n ≤ 200) (l : List JStep) (hl : l.length ≤ 20) (hlo : ∀ o ∈ l, I64 o.Size) (w : List UInt8) (hw : w.length ≤ 8) : Ok Tryd.prog 4 gK [] (.pair (.int .i64 (n : Nat)) (.pair (stepsA l) (.pair (bytesA false w) .nul))) (fun r h' => r = .bool true ∧ h' = []) := by
  have csan := sanity_ok
  have cn := new_ok (n : Nat) (by omega) (by omega)
  rw [Int.toNat_natCast] at cn
  refine Ok.of_vcC tt_ok Tryd.func4 rfl rfl (by show 3 ≤ _; decide) 0 (hlt_ok (by rfl)) fun c0 => ?_
  repeat' (first | (refine SS_ ?_) | (refine Seq.callo false [] [(0, 3), (1, 0), (2, 1), (3, 2)] (.tup (.pair (.ptr 0 []) (.pair (.int .i64 0) .nul))) (dD n (wornD n [])) 4 (cn) Tryd.func13 gK_ok subG.nil (by rfl) (by rfl) rfl rfl rfl rfl rfl (by rfl) rfl (by rfl) (by rfl) (by rfl) (by rfl) VW_ NI_ R_ (noFrL_ok NI_) BK_ ?_) | (refine Seq.lit (by rfl) (by rfl) LT2_ ?_) | (refine VC.litF (by rfl) LFA_ ?_) | fail)
  refine VC.loop (fun x : Nat × WM => ⟨[(49, .int .i64 (x.1 : Nat)), (48, .int .i64 w.length), (47, bytesA false w), (7, .ptr 0 []), (0, .int .i64 (n : Nat)), (1, stepsA l)], dD n (wornD n x.2), gK, 4⟩) (fun x => x.1 ≤ w.length ∧ GoodD n (wornD n x.2)) (fun x => w.length - x.1) (0, []) ⟨Nat.zero_le _, good_worn0 h1 (by omega)⟩ (Sim.less [] (by rfl) R_ R_) fun x hx => ?_
  obtain ⟨k, W⟩ := x
  obtain ⟨hk, hG⟩ := hx
  have hk : k ≤ w.length := hk
  have hG : GoodD n (wornD n W) := hG
  show VC _ _ _ ⟨[(49, .int .i64 (k : Nat)), (48, .int .i64 w.length), (47, bytesA false w), (7, .ptr 0 []), (0, .int .i64 (n : Nat)), (1, stepsA l)], dD n (wornD n W), gK, 4⟩
  by_cases hkw : k < w.length
  · have hwk : (w.getD ((k : Nat) : Int).toNat 0) = w.getD k 0 := by rw [Int.toNat_natCast]
    have hmod : (w.getD k 0).toNat % n < n := Nat.mod_lt _ (by omega)
    have cw := wear_ok (n := n) (B := List.replicate n zs) (P := []) (W := W) (off := false) (left := -1) (((w.getD k 0).toNat % n : Nat) : Int)
    have hnb : ¬ bad n (((w.getD k 0).toNat % n : Nat) : Int) := by unfold bad; omega
    rw [if_neg hnb, if_neg hnb] at cw
    repeat' (first | (refine SS_ ?_) | (refine Seq.callo false [] [] (.int .i64 0) (dD n (wornD n (mSet W (((w.getD k 0).toNat % n : Nat) : Int) true))) 4 (cw) Tryd.func14 gK_ok subG.nil (by rfl) (by rfl) rfl rfl rfl rfl rfl (by rfl) rfl (by rfl) (by rfl) (by rfl) (by rfl) VW_ NI_ R_ (noFrL_ok NI_) BK_ ?_) | (refine VC.litT (by rfl) LTR_ ?_) | fail)
    refine ⟨(k + 1, mSet W (((w.getD k 0).toNat % n : Nat) : Int) true), ⟨(by omega : k + 1 ≤ w.length), good_wornS hG hmod⟩, (by omega : w.length - (k + 1) < w.length - k), ?_⟩
    show ∀ a_1 w_1, _ → Sim _ ⟨[(49, .int .i64 ((k + 1 : Nat) : Int)), (48, .int .i64 w.length), (47, bytesA false w), (7, .ptr 0 []), (0, .int .i64 (n : Nat)), (1, stepsA l)], dD n (wornD n (mSet W (((w.getD k 0).toNat % n : Nat) : Int) true)), gK, 4⟩ a_1 w_1
    exact (Sim.less [] (by rfl) R_ R_)
  · have hI := goes_begin hG
    have co := open_ok hG rfl
    rw [rdL_worn] at co
    generalize opn (List.replicate n zs) = J0 at *
    repeat' (first | (refine SS_ ?_) | (refine Seq.callo false [] [] (.tup (.pair (.ptr 4 []) (.pair (.int .i64 0) .nul))) (jH n (wornD n W) J0) 8 (co) Tryd.func15 gK_ok subG.refl (by rfl) (by rfl) rfl rfl rfl rfl rfl (by rfl) rfl (by rfl) (by rfl) (by rfl) (by rfl) VW_ NI_ R_ (noFrL_ok NI_) BK_ ?_) | (refine VC.litF (by rfl) LFA_ ?_) | fail)
    have hn1 := hI.jok.n1
    have hR0 : J0.R = [] := List.eq_nil_of_length_eq_zero (Nat.le_zero.1 hI.jok.len)
    refine VC.conv (s' := ⟨[(73, .int .i64 ((0 : Nat) : Int)), (72, .int .i64 l.length), (71, stepsA l), (15, .int .i64 0), (14, .val (.slice none 0 0)), (13, .val (.slice none 0 0)), (11, .ptr 4 []), (7, .ptr 0 [])], jH n (wornD n W) J0, gK, 8⟩) (Sim.less [] (by rfl) R_ R_) ?_
    refine VC.conv (Sim.ghost 13 1 (fun i => .int .i64 (([] : List Int).getD i 0)) (by rfl) (.inl rfl)) ?_
    refine VC.conv (Sim.ghost 14 1 (fun i => .str (([] : List Bs).getD i [])) (by rfl) (.inl rfl)) ?_
    refine VC.loop (fun x : Nat × (Disk × Jr) × Int => ⟨[(73, .int .i64 (x.1 : Nat)), (72, .int .i64 l.length), (71, stepsA l), (15, .int .i64 x.2.2), (14, .sl 9 [] 1 0 (texts x.2.1.2).length), (13, .sl 8 [] 1 0 (nums x.2.1.2).length), (11, .ptr 4 []), (7, .ptr 0 [])], (8, liO (nums x.2.1.2)) :: (9, txO (texts x.2.1.2)) :: jH n x.2.1.1 x.2.1.2, gK, 10⟩) (fun x => x.1 ≤ l.length ∧ GoesI n x.2.1.1 x.2.1.2 x.1 ∧ x.2.2 < x.2.1.2.next) (fun x => l.length - x.1) (0, (wornD n W, J0), 0) ⟨Nat.zero_le _, hI, by show (0 : Int) < J0.next; omega⟩ (by
      have e1 : nums J0 = [] := by unfold nums; rw [hR0]; rfl
      have e2 : texts J0 = [] := by unfold texts; rw [hR0]; rfl
      rw [e1, e2]
      exact (Sim.less [] (by rfl) R_ R_)
      all_goals trace_state) fun x hx => ?_
    obtain ⟨k2, ⟨D, J⟩, last⟩ := x
    obtain ⟨hk2, hI2, hlast⟩ := hx
    have hk2 : k2 ≤ l.length := hk2
    have hI2 : GoesI n D J k2 := hI2
    have hlast : last < J.next := hlast
    show VC _ _ _ ⟨[(73, .int .i64 (k2 : Nat)), (72, .int .i64 l.length), (71, stepsA l), (15, .int .i64 last), (14, .sl 9 [] 1 0 (texts J).length), (13, .sl 8 [] 1 0 (nums J).length), (11, .ptr 4 []), (7, .ptr 0 [])], (8, liO (nums J)) :: (9, txO (texts J)) :: jH n D J, gK, 10⟩
    by_cases hkl : k2 < l.length
    · have eo : l.getD ((k2 : Nat) : Int).toNat jstZ = l.getD k2 jstZ := by rw [Int.toNat_natCast]
      have hol : I64 (l.getD ((k2 : Nat) : Int).toNat jstZ).Size := by rw [eo]; exact hlo _ (Go.Lx.getD_mem hkl)
      have ct := rtext_ok (l.getD ((k2 : Nat) : Int).toNat jstZ).K (l.getD ((k2 : Nat) : Int).toNat jstZ).I (l.getD ((k2 : Nat) : Int).toNat jstZ).Bit (l.getD ((k2 : Nat) : Int).toNat jstZ).Size (l.getD ((k2 : Nat) : Int).toNat jstZ).Fill (l.getD ((k2 : Nat) : Int).toNat jstZ).Pk hol
      have htl := stepText_le (l.getD ((k2 : Nat) : Int).toNat jstZ).Size (l.getD ((k2 : Nat) : Int).toNat jstZ).Fill
      generalize stepText (l.getD ((k2 : Nat) : Int).toNat jstZ).Size (l.getD ((k2 : Nat) : Int).toNat jstZ).Fill = t at *
      have ca := append_ok hI2.good hI2.jok (by omega) t (by omega)
      obtain ⟨gI, gs⟩ := goes_step hI2 (by omega) t
      generalize app n D J t = R at *
      obtain ⟨⟨D', J'⟩, m, e⟩ := R
      have gI : GoesI n D' J' (k2 + 1) := gI
      have l1 : (nums J).length = J.R.length := nums_len
      have l2 : (texts J).length = J.R.length := texts_len
      have l3 := hI2.jok.len
      rcases gs with ⟨g1, g2, g3, g4⟩ | ⟨g1, g3, g4⟩
      · have g1 : e = 0 := g1
        have g2 : m = J.next := g2
        have g3 : J'.next = J.next + 1 := g3
        have g4 : J'.R = J.R ++ [(J.next, t)] := g4
        subst g1 g2
        have e1 : nums J' = nums J ++ [J.next] := by unfold nums; rw [g4, List.map_append]; rfl
        have e2 : texts J' = texts J ++ [t] := by unfold texts; rw [g4, List.map_append]; rfl
        repeat' (first | (refine SS_ ?_) | (refine Seq.callp false (ct) Tryd.func17 gK_ok subG.nil (by rfl) (by rfl) rfl rfl rfl rfl rfl (by rfl) rfl VW_ NI_ NI_ FR_ ?_) | (refine Seq.callo false [] [(11, 8), (12, 9)] (.tup (.pair (.int .i64 J.next) (.pair (.int .i64 0) .nul))) (jL 11 12 n D' (nums J') J'.bad (texts J') J'.next J'.stop J'.shut) 13 (ca) Tryd.func16 gK_ok subG.refl (by rfl) (by rfl) rfl rfl rfl rfl rfl (by rfl) rfl (by rfl) (by rfl) (by rfl) (by rfl) VW_ NI_ R_ (noFrL_ok NI_) BK_ ?_) | (refine VC.drawS2 (id := 26) [(0, 0), (1, 0), (2, 2), (3, 7)] [(4, 0), (5, 0), (6, 47), (7, 111), (8, 255), (9, 0)] [9] [(10, 13), (11, 14)] [12] [8] [9] (by rfl) (by kernel_rfl) (by rfl) (by rfl) (by rfl) (by rfl) (by rfl) (by rfl) (by rfl) ?_) | (refine DSeq.eata true tt_ok (by rfl) (fastE (by rfl)) (fastH (by rfl)) (fastH (by rfl)) (by rfl) (by (first | exact trivial | exact u8_in _ rfl | exact u32_in _ rfl | ((with_reducible refine AllP.guard ?_); simp only [AllP, inI, fitV, maxK, inK, inbL, inb, List.append, List.cons_append, List.nil_append, true_and, and_true]; first | done | omega))) (by rfl) rfl (by rfl) ?_) | (refine DSeq.nil ⟨rfl, by rfl, late_endS (by rfl) (by rfl) (by rfl) (by repeat (first | exact trivial | refine ⟨trivial, ?_⟩ | refine ⟨lateX (by rfl) (late_evH true tt_ok (by rfl) (by rfl) (by rfl) (by rfl) (by (first | exact trivial | exact u8_in _ rfl | exact u32_in _ rfl | ((with_reducible refine AllP.guard ?_); simp only [AllP, inI, fitV, maxK, inK, inbL, inb, List.append, List.cons_append, List.nil_append, true_and, and_true]; first | done | omega)))), ?_⟩)) (late_evH true tt_ok (by rfl) (by rfl) (by rfl) (by rfl) (by (first | exact trivial | exact u8_in _ rfl | exact u32_in _ rfl | ((with_reducible refine AllP.guard ?_); simp only [AllP, inI, fitV, maxK, inK, inbL, inb, List.append, List.cons_append, List.nil_append, true_and, and_true]; first | done | omega)))) (late_evH true tt_ok (by rfl) (by rfl) (by rfl) (by rfl) (by (first | exact trivial | exact u8_in _ rfl | exact u32_in _ rfl | ((with_reducible refine AllP.guard ?_); simp only [AllP, inI, fitV, maxK, inK, inbL, inb, List.append, List.cons_append, List.nil_append, true_and, and_true]; first | done | omega)))) ?_⟩) | (refine DSeq.nil ⟨rfl, ?_⟩) | (refine DSeq.callp false (ct) Tryd.func17 gK_ok subG.nil (by rfl) (fastE (by rfl)) (fastH (by rfl)) (by rfl) (by rfl) rfl rfl rfl rfl rfl (by rfl) (by rfl) VW_ NI_ NI_ FR_ ?_) | (refine VC.litT (by rfl) LTR_ ?_) | (refine VC.litF (by rfl) LFA_ ?_) | (refine DD_ ?_) | fail)
        refine ⟨(k2 + 1, (D', J'), J.next), ⟨(by omega : k2 + 1 ≤ l.length), gI, (by omega : J.next < J'.next)⟩, (by omega : l.length - (k2 + 1) < l.length - k2), ?_⟩
        show ∀ a_1 w_1, _ → Sim _ ⟨[(73, .int .i64 ((k2 + 1 : Nat) : Int)), (72, .int .i64 l.length), (71, stepsA l), (15, .int .i64 J.next), (14, .sl 9 [] 1 0 (texts J').length), (13, .sl 8 [] 1 0 (nums J').length), (11, .ptr 4 []), (7, .ptr 0 [])], (8, liO (nums J')) :: (9, txO (texts J')) :: (4, jrA 0 5 6 7 (nums J') J'.bad (texts J') J'.next J'.stop J'.shut) :: (5, liO (nums J')) :: (6, liO J'.bad) :: (7, txO (texts J')) :: dD n D', gK, 10⟩ a_1 w_1
        rw [e1, e2]
        unfold jrA liO txO
        rw [List.length_append, List.length_append, List.length_singleton, List.length_singleton]
        (refine Sim.less [(8, 14), (9, 16), (5, 11), (7, 12)] (by rfl) ?_ ?_ <;> (repeat' (first | (exact EnvLe.nil) | (exact HeapLe.nil) | (with_reducible apply EnvLe.cons) | (with_reducible apply HeapLe.cons) | ((with_reducible refine RelA.int ?_; first | (refine Keep.mk ?_; first | with_reducible rfl | omega | decide) | skip)) | (exact rfl) | (exact ⟨rfl, rfl⟩) | ((with_reducible refine RelA.rsl ?_; intro i hi)) | ((with_reducible refine RelA.arr ?_; intro i hi)) | (with_reducible refine RelA.pair ?_ ?_) | ((refine RelA.arr ?_; intro i hi)) | (exact NoId.self (by first | ((repeat' (first | exact trivial | exact rfl | refine NoFr.bif ?_ ?_ | refine NoId.bif ?_ ?_ | refine AllFr.bif ?_ ?_ | (intro i hi) | (refine ⟨?_, ?_⟩) | (intro e; cases e; done))); done) | fail)) | fail)) <;> (try with_reducible refine Keep.mk ?_))
        all_goals first | exact rel_snocG (G := AV.int .i64) (fun e => NI_) (by assumption) | exact rel_snocG (G := AV.str) (fun e => NI_) (by assumption) | trace_state
      · have g3 : J.next ≤ J'.next := g3
        have g4 : J'.R = J.R := g4
        have e1 : nums J' = nums J := by unfold nums; rw [g4]
        have e2 : texts J' = texts J := by unfold texts; rw [g4]
        have g1 : e = 21 ∨ e = 19 ∨ e = 4 := g1
        rcases g1 with rfl | rfl | rfl
        all_goals
          repeat' (first | (refine SS_ ?_) | (refine Seq.callp false (ct) Tryd.func17 gK_ok subG.nil (by rfl) (by rfl) rfl rfl rfl rfl rfl (by rfl) rfl VW_ NI_ NI_ FR_ ?_) | (refine Seq.callo false [] [(11, 8), (12, 9)] (.tup (.pair (.int .i64 m) (.pair (.int .i64 _) .nul))) (jL 11 12 n D' (nums J') J'.bad (texts J') J'.next J'.stop J'.shut) 13 (ca) Tryd.func16 gK_ok subG.refl (by rfl) (by rfl) rfl rfl rfl rfl rfl (by rfl) rfl (by rfl) (by rfl) (by rfl) (by rfl) VW_ NI_ R_ (noFrL_ok NI_) BK_ ?_) | (refine VC.litT (by rfl) LTR_ ?_) | (refine VC.litF (by rfl) LFA_ ?_) | fail)
          refine ⟨(k2 + 1, (D', J'), last), ⟨(by omega : k2 + 1 ≤ l.length), gI, (by omega : last < J'.next)⟩, (by omega : l.length - (k2 + 1) < l.length - k2), ?_⟩
          show ∀ a_1 w_1, _ → Sim _ ⟨[(73, .int .i64 ((k2 + 1 : Nat) : Int)), (72, .int .i64 l.length), (71, stepsA l), (15, .int .i64 last), (14, .sl 9 [] 1 0 (texts J').length), (13, .sl 8 [] 1 0 (nums J').length), (11, .ptr 4 []), (7, .ptr 0 [])], (8, liO (nums J')) :: (9, txO (texts J')) :: (4, jrA 0 5 6 7 (nums J') J'.bad (texts J') J'.next J'.stop J'.shut) :: (5, liO (nums J')) :: (6, liO J'.bad) :: (7, txO (texts J')) :: dD n D', gK, 10⟩ a_1 w_1
          rw [e1, e2]
          exact (Sim.less [(5, 11), (7, 12)] (by rfl) R_ R_)
    · have hend := goes_end hI2
      have hjl := hI2.jok.len
      have co2 := open_ok hI2.good hI2.on
      rw [rdL_on hI2.P hI2.on hI2.good.len] at co2
      generalize opn D.B = J2 at *
      obtain ⟨R2, b2, x2, s2, h2⟩ := J2
      have hend : R2 = J.R := hend
      subst hend
      have l1 : (nums J).length = J.R.length := nums_len
      have l2 : (texts J).length = J.R.length := texts_len
      have n4 := jnums_ok (n := n) (D := D) (J := J) (by omega)
      have t4 := jtexts_ok (n := n) (D := D) (J := J) (by omega)
      have n5 := jnums_ok (n := n) (D := D) (J := ⟨J.R, b2, x2, s2, h2⟩) (by show (nums J).length ≤ _; omega)
      have t5 := jtexts_ok (n := n) (D := D) (J := ⟨J.R, b2, x2, s2, h2⟩) (by show (texts J).length ≤ _; omega)
      have l1 : (nums J).length = J.R.length := nums_len
      have l2 : (texts J).length = J.R.length := texts_len
      have co2 : Ok Tryd.prog 15 gK (dD n D) (.pair (.ptr 0 []) .nul) (fun r h' => r = .tup (.pair (.ptr 4 []) (.pair (.int .i64 0) .nul)) ∧ h' = jX n D (nums J) b2 (texts J) x2 s2 h2) := co2
      have n5 : Ok Tryd.prog 19 [] (jX n D (nums J) b2 (texts J) x2 s2 h2) (.pair (.ptr 4 []) .nul) (fun r h' => r = .sl 8 [] 1 0 (nums J).length ∧ h' = (8, liO (nums J)) :: jX n D (nums J) b2 (texts J) x2 s2 h2) := n5
      have t5 : Ok Tryd.prog 20 [] (jX n D (nums J) b2 (texts J) x2 s2 h2) (.pair (.ptr 4 []) .nul) (fun r h' => r = .sl 8 [] 1 0 (texts J).length ∧ h' = (8, txO (texts J)) :: jX n D (nums J) b2 (texts J) x2 s2 h2) := t5
      have q1 := sameI_ok (nums J) (nums J) (by omega) (by omega)
      have q2 := sameTx_ok (texts J) (texts J) (by omega) (by omega)
      rw [decide_eq_true rfl] at q1 q2
      repeat' (first | (refine SS_ ?_) | (refine Seq.callo false [] [(10, 4), (11, 5), (12, 6), (13, 7)] (.tup (.pair (.ptr 10 []) (.pair (.int .i64 0) .nul))) ((10, jrA 0 11 12 13 (nums J) b2 (texts J) x2 s2 h2) :: (11, liO (nums J)) :: (12, liO b2) :: (13, txO (texts J)) :: dD n D) 14 (co2) Tryd.func15 gK_ok subG.refl (by rfl) (by rfl) rfl rfl rfl rfl rfl (by rfl) rfl (by rfl) (by rfl) (by rfl) (by rfl) VW_ NI_ R_ (noFrL_ok NI_) BK_ ?_) | (refine Seq.callp false (csan) Tryd.func5 gK_ok subG.refl (by rfl) (by rfl) rfl rfl rfl rfl rfl (by rfl) rfl VW_ NI_ NI_ FR_ ?_) | (refine Seq.callo false [] [(14, 8)] (.sl 14 [] 1 0 (nums J).length) ((14, liO (nums J)) :: jH n D J) 15 (n4) Tryd.func19 gK_ok subG.nil (by rfl) (by rfl) rfl rfl rfl rfl rfl (by rfl) rfl (by rfl) (by rfl) (by rfl) (by rfl) VW_ NI_ R_ (noFrL_ok NI_) BK_ ?_) | (refine Seq.callp true (q1) Tryd.func18 gK_ok subG.nil (by rfl) (by rfl) rfl rfl rfl rfl rfl (by rfl) rfl VW_ NI_ NI_ FR_ ?_) | (refine Seq.callo false [] [(15, 8)] (.sl 15 [] 1 0 (texts J).length) ((15, txO (texts J)) :: jH n D J) 16 (t4) Tryd.func20 gK_ok subG.nil (by rfl) (by rfl) rfl rfl rfl rfl rfl (by rfl) rfl (by rfl) (by rfl) (by rfl) (by rfl) VW_ NI_ R_ (noFrL_ok NI_) BK_ ?_) | (refine Seq.callp true (q2) Tryd.func10 gK_ok subG.nil (by rfl) (by rfl) rfl rfl rfl rfl rfl (by rfl) rfl VW_ NI_ NI_ FR_ ?_) | (refine Seq.callo false [(4, 10), (5, 11), (6, 12), (7, 13)] [(10, 4), (11, 5), (12, 6), (13, 7), (16, 8)] (.sl 16 [] 1 0 (nums J).length) ((16, liO (nums J)) :: (10, jrA 0 11 12 13 (nums J) b2 (texts J) x2 s2 h2) :: (11, liO (nums J)) :: (12, liO b2) :: (13, txO (texts J)) :: dD n D) 17 (n5) Tryd.func19 gK_ok subG.nil (by rfl) (by rfl) rfl rfl rfl rfl rfl (by rfl) rfl (by rfl) (by rfl) (by rfl) (by rfl) VW_ NI_ R_ (noFrL_ok NI_) BK_ ?_) | (refine Seq.callo false [(4, 10), (5, 11), (6, 12), (7, 13)] [(10, 4), (11, 5), (12, 6), (13, 7), (17, 8)] (.sl 17 [] 1 0 (texts J).length) ((17, txO (texts J)) :: (10, jrA 0 11 12 13 (nums J) b2 (texts J) x2 s2 h2) :: (11, liO (nums J)) :: (12, liO b2) :: (13, txO (texts J)) :: dD n D) 18 (t5) Tryd.func20 gK_ok subG.nil (by rfl) (by rfl) rfl rfl rfl rfl rfl (by rfl) rfl (by rfl) (by rfl) (by rfl) (by rfl) VW_ NI_ R_ (noFrL_ok NI_) BK_ ?_) | (refine VC.litF (by rfl) LFA_ ?_) | fail)
      (refine retC_mk ([(6, .bool true)]) ([]) 18 (Sim.less [] (by rfl) R_ R_) (retQ_ok (by rfl) ([]) (fun i av h => h) ⟨?_, ?_⟩)) <;> rfl
end Go.Proofs.YtmbldnahcmkpgaaDoor
