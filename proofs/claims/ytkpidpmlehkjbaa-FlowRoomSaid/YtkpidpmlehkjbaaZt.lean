/- Flow: FlowRoom. -/
import Derived.Test.YtkpidpmlehkjbaaZq
import Derived.Test.YtkpidpmlehkjbaaZb
set_option linter.unusedSimpArgs false
set_option linter.unusedVariables false
namespace Go.Fl
theorem first_sums {n : Nat} {x : List Ed} (ok : NetOk n x) {F : List Int} (hF : inB x F) (hc : circ n x F) (hm : ∀ G, inB x G → circ n x G → cost x F ≤ cost x G) : ∃ G, fstO n x = some G ∧ inB x G ∧ cost x F ≤ cost x G := by
  rcases fst_cases ok with ⟨G, h1, h2, h3⟩ | ⟨_, S, h⟩
  · exact ⟨G, h1, h2, hm G h2 h3⟩
  · exact (blocked ok.nodes h hF hc).elim
theorem less_len : ∀ {y x : List Ed}, less y x → y.length = x.length
  | [], [], _ => rfl
  | [], _ :: _, h => h.elim
  | _ :: _, [], h => h.elim
  | _ :: y, _ :: x, h => by rw [List.length_cons, List.length_cons, less_len h.2]
end Go.Fl
namespace Go.Proofs.Ytkpidpmlehkjbaa
open Go.V Go.RowKit Go.L Go.Lx Go.Fl
set_option maxRecDepth 10000
set_option maxHeartbeats 4000000
theorem Seq.two {F : Fr} {ops : Array Oper} {l : List Oper} {K : St → Prop} {X : Type} {I : X → St} {J : X → Prop} {G : Prop} (h1 : (∀ z, J z → Seq F ops l (I z) K) → G) (h2 : ∀ z, J z → Seq F ops l (I z) K) : G := h1 h2
theorem tdiv2_i64 {a : Int} (h : I64 a) : I64 (Int.tdiv a 2) := by
  unfold I64 at *
  rcases Int.le_total 0 a with h0 | h0
  · rw [Int.tdiv_eq_ediv_of_nonneg h0]; constructor <;> omega
  · have e : Int.tdiv a 2 = -((-a) / 2) := by
      rw [show a = -(-a) by omega, Int.neg_tdiv, Int.tdiv_eq_ediv_of_nonneg (by omega), Int.neg_neg]
    rw [e]; constructor <;> omega
theorem wrap2_i64 {n : Int} (h : I64 n) : IntKind.i64.wrap n = n := by
  unfold I64 at h
  simp [IntKind.wrap, IntKind.signed, IntKind.bits]; omega
theorem lessx_ok {n : Nat} {x : List Ed} (ok : NetOk n x) {k : Nat} (hk : k < x.length) {lo hi : Int} (h : (x.getD k edZ).lo ≤ lo ∧ lo ≤ hi ∧ hi ≤ (x.getD k edZ).hi) : less (x.set k ⟨(x.getD k edZ).a, (x.getD k edZ).b, lo, hi, (x.getD k edZ).c⟩) x ∧ NetOk n (x.set k ⟨(x.getD k edZ).a, (x.getD k edZ).b, lo, hi, (x.getD k edZ).c⟩) :=
  ⟨less_set hk ⟨rfl, rfl, rfl, h.1, h.2.2⟩, ok.n64, by rw [List.length_set]; exact ok.l256, fun e he => by
    rcases List.mem_or_eq_of_mem_set he with h1 | rfl
    · exact ok.ed e h1
    · have := ok.get hk
      show 0 ≤ (x.getD k edZ).a ∧ (x.getD k edZ).a < n ∧ 0 ≤ (x.getD k edZ).b ∧ (x.getD k edZ).b < n ∧ 0 ≤ lo ∧ lo ≤ hi ∧ hi ≤ 1000 ∧ -1000 ≤ (x.getD k edZ).c ∧ (x.getD k edZ).c ≤ 1000
      omega⟩
theorem room_law (l : List Int) (hl : IOk l) (at' : Int) (h1 : I64 at') (by' : Int) (h2 : I64 by') : Ok Try.prog 6 [] [] (.pair (liV l) (.pair (.int .i64 at') (.pair (.int .i64 by') .nul))) (fun r h' => r = .bool true ∧ h' = []) := by
  have cn := network_ok l hl
  have ok := net_ok l
  have hed := net_ed l
  have hx : (netX l).length ≤ 9 := by rw [netX_len]; exact cnt_le l
  generalize netX l = x at *
  generalize netN l = n at *
  have cox := own_ok x (by omega)
  have clx := least_ok n x (by omega)
  have sx := lst_sums ok (by omega)
  obtain ⟨x1, x2, x3⟩ := lst_len ok (by omega)
  have cf := first_ok ok
  have cv := lives_ok
  have hcb := fun {F : List Int} (h : inB x F) => ok.cost h
  generalize lst (n : Int) x = R at *
  obtain ⟨F, L, S, e⟩ := R
  replace clx : Ok Try.prog 14 [] [] (.pair (.int .i64 (n : Nat)) (.pair (edV x) .nul)) (fun r h' => r = .tup (.pair (.pair (lsV F) (.pair (lsV L) .nul)) (.pair (lsV S) (.pair (.int .i64 e) .nul))) ∧ h' = []) := clx
  replace x1 : F.length ≤ 256 := x1
  refine Ok.of_vcC tt_ok Try.func6 rfl rfl (by show 3 ≤ _; decide) 0 (hlt_ok (by rfl)) fun c0 => ?_
  refine' Seq.two (X := List Ed) (J := fun Y => less Y x ∧ NetOk n Y) (I := fun Y => ⟨[(89, .sl 1 [] 5 0 x.length), (88, .int .i64 (n : Nat)), (12, .sl 1 [] 5 0 x.length), (11, .int .i64 e), (9, .ptr 0 []), (8, edT x), (7, .int .i64 (n : Nat))], [(1, .arr x.length 5 (fun i => edA (Y.getD i edZ))), (0, .pair (lsV F) (.pair (lsV L) .nul))], [], 2⟩) (fun key => ?main) ?rest
  case main =>
    repeat' (first | (refine SS_ ?_) | (refine Seq.callp true (cn) Try.func9 GOk.nil subG.nil (by rfl) (by rfl) rfl rfl rfl rfl rfl (by rfl) rfl VW_ NI_ NI_ FR_ ?_) | (refine Seq.callp true (cox) Try.func15 GOk.nil subG.nil (by rfl) (by rfl) rfl rfl rfl rfl rfl (by rfl) rfl VW_ NI_ NI_ FR_ ?_) | fail)
    refine Seq.callp true (clx) Try.func14 GOk.nil subG.nil (by rfl) (by rfl) rfl rfl rfl rfl rfl (by rfl) rfl VW_ NI_ NI_ FR_ ?_
    by_cases hx0 : x.length = 0
    · repeat' (first | (refine SS_ ?_) | (refine VC.litF (by rfl) LFA_ ?_) | fail)
      refine Seq.conv ?_ (key x ⟨less_refl x, ok⟩)
      exact (Sim.less [] (by rfl) R_ R_)
    · have ha := around_lt at' x.length (by omega)
      have ca := lAround_ok at' x.length h1
      generalize aroundI at' x.length = k at *
      have hkl : k.toNat < x.length := by omega
      have hb0 := hed _ (getD_mem' hkl)
      have hb : 0 ≤ (x.getD (0 + k.toNat) edZ).lo ∧ (x.getD (0 + k.toNat) edZ).lo ≤ (x.getD (0 + k.toNat) edZ).hi ∧ (x.getD (0 + k.toNat) edZ).hi ≤ 6 := by rw [Nat.zero_add]; omega
      obtain ⟨q0, q1⟩ := around_lt (IntKind.i64.wrap (Int.tdiv by' 2)) ((x.getD (0 + k.toNat) edZ).hi - (x.getD (0 + k.toNat) edZ).lo + 1) (by omega)
      have cq := lAround_ok (IntKind.i64.wrap (Int.tdiv by' 2)) ((x.getD (0 + k.toNat) edZ).hi - (x.getD (0 + k.toNat) edZ).lo + 1) (by rw [wrap2_i64 (tdiv2_i64 h2)]; exact tdiv2_i64 h2)
      generalize aroundI (IntKind.i64.wrap (Int.tdiv by' 2)) ((x.getD (0 + k.toNat) edZ).hi - (x.getD (0 + k.toNat) edZ).lo + 1) = q at *
      by_cases hm : by'.tmod 2 = 0
      · have hky := lessx_ok ok hkl (lo := (x.getD k.toNat edZ).lo) (hi := (x.getD k.toNat edZ).hi - q) (by rw [Nat.zero_add] at q1; omega)
        repeat' (first | (refine SS_ ?_) | (refine Seq.callp true (ca) Try.func12 GOk.nil subG.nil (by rfl) (by rfl) rfl rfl rfl rfl rfl (by rfl) rfl VW_ NI_ NI_ FR_ ?_) | (refine VC.drawm (id := 7) [(0, 0), (1, 0), (2, 3), (3, 7), (4, 15), (5, 0), (6, 0), (7, 96), (8, 224), (9, 480), (10, 1023)] [11] (by rfl) (by kernel_rfl) (by rfl) ?_) | (refine Seq.ev0 false tt_ok (by rfl) (by (first | exact trivial | exact u8_in _ rfl | exact u32_in _ rfl | ((with_reducible refine AllP.guard ?_); simp only [AllP, inI, fitV, maxK, inK, inbL, inb, List.append, List.cons_append, List.nil_append, true_and, and_true]; first | done | omega))) rfl rfl rfl ?_) | (refine VC.drawm (id := 9) [(0, 0), (1, 0), (2, 0), (3, 0), (4, 12), (5, 28), (6, 60), (7, 0), (8, 128), (9, 0), (10, 512), (11, 1920), (12, 4092), (13, 8191), (14, 16383)] [15] (by rfl) (by kernel_rfl) (by rfl) ?_) | (refine DSeq.ev0 false tt_ok (by rfl) (fastE (by rfl)) (fastH (by rfl)) (by rfl) (by (first | exact trivial | exact u8_in _ rfl | exact u32_in _ rfl | ((with_reducible refine AllP.guard ?_); simp only [AllP, inI, fitV, maxK, inK, inbL, inb, List.append, List.cons_append, List.nil_append, true_and, and_true]; first | done | omega))) (by rfl) rfl (by rfl) ?_) | (refine DSeq.callp true (cq) Try.func12 GOk.nil subG.nil (by rfl) (fastE (by rfl)) (fastH (by rfl)) (by rfl) (by rfl) rfl rfl rfl rfl rfl (by rfl) (by rfl) VW_ NI_ NI_ FR_ ?_) | (refine VC.litT (by rfl) LTR_ ?_) | (refine DD_ ?_) | fail)
        refine Seq.conv ?_ (key _ hky)
        (refine Sim.less [] (by rfl) ?_ ?_ <;> (repeat' (first | (exact EnvLe.nil) | (exact HeapLe.nil) | (with_reducible apply EnvLe.cons) | (with_reducible apply HeapLe.cons) | ((with_reducible refine RelA.int ?_; first | (refine Keep.mk ?_; first | with_reducible rfl | omega | decide) | skip)) | (exact rfl) | (exact ⟨rfl, rfl⟩) | ((with_reducible refine RelA.rsl ?_; intro i hi)) | (with_reducible refine RelA.pair ?_ ?_) | ((refine RelA.arr ?_; intro i hi)) | fail)) <;> (try with_reducible refine Keep.mk ?_))
        all_goals exact rel_setG (G := edA) (fun e => NI_) (by omega) (by rw [Nat.zero_add]; rfl)
      · have hky := lessx_ok ok hkl (lo := (x.getD k.toNat edZ).lo + q) (hi := (x.getD k.toNat edZ).hi) (by rw [Nat.zero_add] at q1; omega)
        repeat' (first | (refine SS_ ?_) | (refine Seq.callp true (ca) Try.func12 GOk.nil subG.nil (by rfl) (by rfl) rfl rfl rfl rfl rfl (by rfl) rfl VW_ NI_ NI_ FR_ ?_) | (refine VC.drawm (id := 7) [(0, 0), (1, 0), (2, 3), (3, 7), (4, 15), (5, 0), (6, 0), (7, 96), (8, 224), (9, 480), (10, 1023)] [11] (by rfl) (by kernel_rfl) (by rfl) ?_) | (refine Seq.ev0 false tt_ok (by rfl) (by (first | exact trivial | exact u8_in _ rfl | exact u32_in _ rfl | ((with_reducible refine AllP.guard ?_); simp only [AllP, inI, fitV, maxK, inK, inbL, inb, List.append, List.cons_append, List.nil_append, true_and, and_true]; first | done | omega))) rfl rfl rfl ?_) | (refine VC.drawm (id := 10) [(0, 0), (1, 0), (2, 0), (3, 0), (4, 12), (5, 28), (6, 60), (7, 0), (8, 128), (9, 0), (10, 512), (11, 1920), (12, 4092), (13, 8191), (14, 16383)] [15] (by rfl) (by kernel_rfl) (by rfl) ?_) | (refine DSeq.ev0 false tt_ok (by rfl) (fastE (by rfl)) (fastH (by rfl)) (by rfl) (by (first | exact trivial | exact u8_in _ rfl | exact u32_in _ rfl | ((with_reducible refine AllP.guard ?_); simp only [AllP, inI, fitV, maxK, inK, inbL, inb, List.append, List.cons_append, List.nil_append, true_and, and_true]; first | done | omega))) (by rfl) rfl (by rfl) ?_) | (refine DSeq.callp true (cq) Try.func12 GOk.nil subG.nil (by rfl) (fastE (by rfl)) (fastH (by rfl)) (by rfl) (by rfl) rfl rfl rfl rfl rfl (by rfl) (by rfl) VW_ NI_ NI_ FR_ ?_) | (refine VC.litT (by rfl) LTR_ ?_) | (refine VC.litF (by rfl) LFA_ ?_) | (refine DD_ ?_) | fail)
        refine Seq.conv ?_ (key _ hky)
        (refine Sim.less [] (by rfl) ?_ ?_ <;> (repeat' (first | (exact EnvLe.nil) | (exact HeapLe.nil) | (with_reducible apply EnvLe.cons) | (with_reducible apply HeapLe.cons) | ((with_reducible refine RelA.int ?_; first | (refine Keep.mk ?_; first | with_reducible rfl | omega | decide) | skip)) | (exact rfl) | (exact ⟨rfl, rfl⟩) | ((with_reducible refine RelA.rsl ?_; intro i hi)) | (with_reducible refine RelA.pair ?_ ?_) | ((refine RelA.arr ?_; intro i hi)) | fail)) <;> (try with_reducible refine Keep.mk ?_))
        all_goals exact rel_setG (G := edA) (fun e => NI_) (by omega) (by rw [Nat.zero_add]; rfl)
  case rest =>
    rintro Y ⟨hle, okY⟩
    have hYl := less_len hle
    have coy := own_ok Y (by omega)
    have cly := least_ok n Y (by omega)
    have hr := rooms hle sx (lst_sums okY (by omega))
    obtain ⟨y1, y2, y3⟩ := lst_len okY (by omega)
    have hcy := fun {F : List Int} (h : inB Y F) => okY.cost h
    generalize lst (n : Int) Y = T at *
    obtain ⟨G, L2, S2, f⟩ := T
    replace cly : Ok Try.prog 14 [] [] (.pair (.int .i64 (n : Nat)) (.pair (edV Y) .nul)) (fun r h' => r = .tup (.pair (.pair (lsV G) (.pair (lsV L2) .nul)) (.pair (lsV S2) (.pair (.int .i64 f) .nul))) ∧ h' = []) := cly
    replace y1 : G.length ≤ 256 := y1
    replace hr : (e = 14 ∧ f = 14) ∨ (e = 0 ∧ inB x F ∧ circ n x F ∧ (∀ G, inB x G → circ n x G → cost x F ≤ cost x G) ∧ (f = 14 ∨ f = 0 ∧ inB Y G ∧ cost x F ≤ cost Y G)) := hr
    clear sx y2 y3 x2 x3
    rw [← hYl]
    rcases hr with ⟨rfl, rfl⟩ | ⟨rfl, iF, cF, mF, hr⟩
    · repeat' (first | (refine SS_ ?_) | (refine Seq.callp true (coy) Try.func15 GOk.nil subG.nil (by rfl) (by rfl) rfl rfl rfl rfl rfl (by rfl) rfl VW_ NI_ NI_ FR_ ?_) | (refine Seq.callp true (cly) Try.func14 GOk.nil subG.nil (by rfl) (by rfl) rfl rfl rfl rfl rfl (by rfl) rfl VW_ NI_ NI_ FR_ ?_) | (refine Seq.callp true (cv) Try.func13 GOk.nil subG.nil (by rfl) (by rfl) rfl rfl rfl rfl rfl (by rfl) rfl VW_ NI_ NI_ FR_ ?_) | (refine VC.litT (by rfl) LTR_ ?_) | (refine VC.litF (by rfl) LFA_ ?_) | (refine Seq.litC (by rfl) (by rfl) (fun hb => ?_) (fun hb => ?_) <;> (fail_if_success (with_reducible have := litT_ hb)) <;> (fail_if_success (with_reducible have := litF_ hb)) <;> (try simp only [HB_] at hb) <;> (try (exfalso; first | omega | (cases hb; done)))) | fail)
      all_goals (
        (refine retC_mk ([(6, .bool true)]) ([]) 3 (Sim.less [] (by rfl) R_ R_) (retQ_ok (by rfl) ([]) (fun i av h => h) ⟨?_, ?_⟩)) <;> rfl)
    · have l1 := inB_len iF
      obtain ⟨I, hI, iI, mI⟩ := first_sums ok iF cF mF
      rw [hI] at cf
      replace cf : Ok Try.prog 25 [] [] (.pair (.int .i64 (n : Nat)) (.pair (edV x) .nul)) (fun r h' => r = .tup (.pair (lsV I) (.pair (.bool true) .nul)) ∧ h' = []) := cf
      have d1 := hcb iF
      have d2 := hcb iI
      have k1 := cost_ok (ok.cbd iF)
      have kf := cost_ok (ok.cbd iI)
      have l3 := inB_len iI
      clear mF
      rcases hr with rfl | ⟨rfl, iG, mG⟩
      · generalize cost x F = u1 at *
        generalize cost x I = u2 at *
        repeat' (first | (refine SS_ ?_) | (refine Seq.callp true (coy) Try.func15 GOk.nil subG.nil (by rfl) (by rfl) rfl rfl rfl rfl rfl (by rfl) rfl VW_ NI_ NI_ FR_ ?_) | (refine Seq.callp true (cly) Try.func14 GOk.nil subG.nil (by rfl) (by rfl) rfl rfl rfl rfl rfl (by rfl) rfl VW_ NI_ NI_ FR_ ?_) | (refine VC.drawm (id := 16) [(0, 0), (1, 1), (2, 3), (3, 7), (4, 7), (5, 23), (6, 63), (7, 7), (8, 7), (9, 263), (10, 1023), (11, 2047), (12, 4095)] [] (by rfl) (by kernel_rfl) (by rfl) ?_) | (refine Seq.callp true (cf) Try.func25 GOk.nil subG.nil (by rfl) (by rfl) rfl rfl rfl rfl rfl (by rfl) rfl VW_ NI_ NI_ FR_ ?_) | (refine VC.drawm (id := 19) [(0, 0), (1, 1), (2, 3), (3, 3), (4, 15), (5, 3), (6, 3), (7, 67), (8, 255), (9, 511), (10, 1023), (11, 2047), (12, 4095), (13, 8191), (14, 16383), (15, 32767), (16, 65535), (17, 131071), (18, 262143), (19, 524287), (20, 1048575), (21, 2097151)] [22] (by rfl) (by kernel_rfl) (by rfl) ?_) | (refine DSeq.callp true (kf) Try.func24 GOk.nil subG.nil (by rfl) (fastE (by rfl)) (fastH (by rfl)) (by rfl) (by rfl) rfl rfl rfl rfl rfl (by rfl) (by rfl) VW_ NI_ NI_ FR_ ?_) | (refine DSeq.callp true (k1) Try.func24 GOk.nil subG.nil (by rfl) (fastE (by rfl)) (fastH (by rfl)) (by rfl) (by rfl) rfl rfl rfl rfl rfl (by rfl) (by rfl) VW_ NI_ NI_ FR_ ?_) | (refine DSeq.callp true (cv) Try.func13 GOk.nil subG.nil (by rfl) (fastE (by rfl)) (fastH (by rfl)) (by rfl) (by rfl) rfl rfl rfl rfl rfl (by rfl) (by rfl) VW_ NI_ NI_ FR_ ?_) | (refine Seq.lit (by rfl) (by rfl) LT2_ ?_) | (refine VC.litF (by rfl) LFA_ ?_) | (refine DD_ ?_) | (refine DSeq.lit2 (by rfl) (by rfl) (by rfl) LT2_ (by rfl) ?_) | (refine Seq.litC (by rfl) (by rfl) (fun hb => ?_) (fun hb => ?_) <;> (fail_if_success (with_reducible have := litT_ hb)) <;> (fail_if_success (with_reducible have := litF_ hb)) <;> (try simp only [HB_] at hb) <;> (try (exfalso; first | omega | (cases hb; done)))) | fail)
        all_goals (
          (refine retC_mk ([(6, .bool true)]) ([]) 3 (Sim.less [] (by rfl) R_ R_) (retQ_ok (by rfl) ([]) (fun i av h => h) ⟨?_, ?_⟩)) <;> rfl)
      · have d3 := hcy iG
        have k3 := cost_ok (okY.cbd iG)
        have l2 := inB_len iG
        generalize cost x F = u1 at *
        generalize cost x I = u2 at *
        generalize cost Y G = u3 at *
        repeat' (first | (refine SS_ ?_) | (refine Seq.callp true (coy) Try.func15 GOk.nil subG.nil (by rfl) (by rfl) rfl rfl rfl rfl rfl (by rfl) rfl VW_ NI_ NI_ FR_ ?_) | (refine Seq.callp true (cly) Try.func14 GOk.nil subG.nil (by rfl) (by rfl) rfl rfl rfl rfl rfl (by rfl) rfl VW_ NI_ NI_ FR_ ?_) | (refine VC.drawm (id := 16) [(0, 0), (1, 1), (2, 3), (3, 7), (4, 7), (5, 23), (6, 63), (7, 7), (8, 7), (9, 263), (10, 1023), (11, 2047), (12, 4095)] [] (by rfl) (by kernel_rfl) (by rfl) ?_) | (refine DSeq.callp true (k3) Try.func24 GOk.nil subG.nil (by rfl) (fastE (by rfl)) (fastH (by rfl)) (by rfl) (by rfl) rfl rfl rfl rfl rfl (by rfl) (by rfl) VW_ NI_ NI_ FR_ ?_) | (refine DSeq.callp true (k1) Try.func24 GOk.nil subG.nil (by rfl) (fastE (by rfl)) (fastH (by rfl)) (by rfl) (by rfl) rfl rfl rfl rfl rfl (by rfl) (by rfl) VW_ NI_ NI_ FR_ ?_) | (refine Seq.callp true (cf) Try.func25 GOk.nil subG.nil (by rfl) (by rfl) rfl rfl rfl rfl rfl (by rfl) rfl VW_ NI_ NI_ FR_ ?_) | (refine VC.drawm (id := 19) [(0, 0), (1, 1), (2, 3), (3, 3), (4, 15), (5, 3), (6, 3), (7, 67), (8, 255), (9, 511), (10, 1023), (11, 2047), (12, 4095), (13, 8191), (14, 16383), (15, 32767), (16, 65535), (17, 131071), (18, 262143), (19, 524287), (20, 1048575), (21, 2097151)] [22] (by rfl) (by kernel_rfl) (by rfl) ?_) | (refine DSeq.callp true (kf) Try.func24 GOk.nil subG.nil (by rfl) (fastE (by rfl)) (fastH (by rfl)) (by rfl) (by rfl) rfl rfl rfl rfl rfl (by rfl) (by rfl) VW_ NI_ NI_ FR_ ?_) | (refine DSeq.callp true (cv) Try.func13 GOk.nil subG.nil (by rfl) (fastE (by rfl)) (fastH (by rfl)) (by rfl) (by rfl) rfl rfl rfl rfl rfl (by rfl) (by rfl) VW_ NI_ NI_ FR_ ?_) | (refine Seq.lit (by rfl) (by rfl) LT2_ ?_) | (refine VC.litF (by rfl) LFA_ ?_) | (refine DD_ ?_) | (refine DSeq.lit2 (by rfl) (by rfl) (by rfl) LT2_ (by rfl) ?_) | fail)
        all_goals (
          (refine retC_mk ([(6, .bool true)]) ([]) 3 (Sim.less [] (by rfl) R_ R_) (retQ_ok (by rfl) ([]) (fun i av h => h) ⟨?_, ?_⟩)) <;> rfl)
end Go.Proofs.Ytkpidpmlehkjbaa
