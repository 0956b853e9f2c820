/- Flow: FlowScaled. -/
import Derived.Test.YtkpidpmlehkjbaaZq
set_option linter.unusedSimpArgs false
set_option linter.unusedVariables false
namespace Go.Fl
open Go.Lx
theorem mul_bd {k c : Int} (h1 : 1 ≤ k) (h2 : k ≤ 100) (h3 : -3 ≤ c) (h4 : c ≤ 6) : -300 ≤ k * c ∧ k * c ≤ 600 := by
  have a := Int.mul_le_mul_of_nonneg_left h3 (show 0 ≤ k by omega)
  have b := Int.mul_le_mul_of_nonneg_left h4 (show 0 ≤ k by omega)
  omega
theorem scaled_ok {n : Nat} {x : List Ed} {k : Int} (ok : NetOk n x) (h : ∀ e ∈ x, -3 ≤ e.c ∧ e.c ≤ 6) (h1 : 1 ≤ k) (h2 : k ≤ 100) : NetOk n (x.map (scE k)) := ⟨ok.n64, by rw [List.length_map]; exact ok.l256, fun e he => by
  obtain ⟨d, hd, rfl⟩ := List.mem_map.1 he
  have a := ok.ed d hd
  have b := mul_bd h1 h2 (h d hd).1 (h d hd).2
  show 0 ≤ d.a ∧ d.a < n ∧ 0 ≤ d.b ∧ d.b < n ∧ 0 ≤ d.lo ∧ d.lo ≤ d.hi ∧ d.hi ≤ 1000 ∧ -1000 ≤ k * d.c ∧ k * d.c ≤ 1000
  omega⟩
theorem moved_ok {n : Nat} {x : List Ed} {L : Int → Int} (ok : NetOk n x) (h : ∀ e ∈ x, -3 ≤ e.c ∧ e.c ≤ 6) (hL : ∀ v, 0 ≤ L v ∧ L v < 50) : NetOk n (x.map (mvE L)) := ⟨ok.n64, by rw [List.length_map]; exact ok.l256, fun e he => by
  obtain ⟨d, hd, rfl⟩ := List.mem_map.1 he
  have a := ok.ed d hd
  have b := h d hd
  have c1 := hL d.a
  have c2 := hL d.b
  show 0 ≤ d.a ∧ d.a < n ∧ 0 ≤ d.b ∧ d.b < n ∧ 0 ≤ d.lo ∧ d.lo ≤ d.hi ∧ d.hi ≤ 1000 ∧ -1000 ≤ d.c + L d.a - L d.b ∧ d.c + L d.a - L d.b ≤ 1000
  omega⟩
theorem map_getD {f : Ed → Ed} {x : List Ed} {j : Nat} (hj : j < x.length) : (x.map f).getD j edZ = f (x.getD j edZ) := by
  rw [List.getD_eq_getElem?_getD, List.getElem?_map, List.getElem?_eq_getElem hj, List.getD_eq_getElem?_getD, List.getElem?_eq_getElem hj]; rfl
end Go.Fl
namespace Go.Proofs.Ytkpidpmlehkjbaa
open Go.V Go.RowKit Go.L Go.Lx Go.Fl
set_option maxRecDepth 10000
set_option maxHeartbeats 4000000
theorem scaled_law (l : List Int) (hl : IOk l) (by' : Int) (h1 : I64 by') (L : List Int) (hL : IOk L) : Ok Try.prog 8 [] [] (.pair (liV l) (.pair (.int .i64 by') (.pair (liV L) .nul))) (fun r h' => r = .bool true ∧ h' = []) := by
  have cn := network_ok l hl
  have ok := net_ok l
  have hed := net_ed l
  have hx : (netX l).length ≤ 9 := by rw [netX_len]; exact cnt_le l
  generalize netX l = x at *
  generalize netN l = n at *
  have ck := lAround_ok by' 100 h1
  have hk := around_lt by' 100 (by omega)
  generalize aroundI by' 100 = k0 at *
  have hat := fun v => at_lt L v 50 (by omega)
  have cat := fun v => lAt_ok L hL v 50
  obtain ⟨Lv, hLv⟩ : ∃ Lv : Int → Int, ∀ v, atI L v 50 = Lv v := ⟨fun v => atI L v 50, fun v => rfl⟩
  simp only [hLv] at hat cat
  have okS := scaled_ok (k := 1 + k0) ok (fun e he => by have := hed e he; omega) (by omega) (by omega)
  have okM := moved_ok (L := Lv) ok (fun e he => by have := hed e he; omega) hat
  have cox := own_ok x (by omega)
  have clx := least_ok n x (by omega)
  have l1 : (x.map (scE (1 + k0))).length = x.length := List.length_map ..
  have l2 : (x.map (mvE Lv)).length = x.length := List.length_map ..
  have cos := own_ok (x.map (scE (1 + k0))) (by omega)
  have cls := least_ok n (x.map (scE (1 + k0))) (by omega)
  have com := own_ok (x.map (mvE Lv)) (by omega)
  have clm := least_ok n (x.map (mvE Lv)) (by omega)
  have sx := lst_sums ok (by omega)
  have hS := scaled (by omega) sx (lst_sums okS (by omega))
  have hM := moved ok.nodes sx (lst_sums okM (by omega))
  obtain ⟨x1, x2, x3⟩ := lst_len ok (by omega)
  obtain ⟨s1, s2, s3⟩ := lst_len okS (by omega)
  obtain ⟨m1, m2, m3⟩ := lst_len okM (by omega)
  clear sx x2 x3 s2 s3 m2 m3
  have cv := lives_ok
  have hcx := fun {F : List Int} (h : inB x F) => ok.cost h
  have hcs := fun {F : List Int} (h : inB (x.map (scE (1 + k0))) F) => okS.cost h
  have hcm := fun {F : List Int} (h : inB (x.map (mvE Lv)) F) => okM.cost h
  generalize lst (n : Int) x = A at *
  generalize lst (n : Int) (x.map (scE (1 + k0))) = B at *
  generalize lst (n : Int) (x.map (mvE Lv)) = C at *
  obtain ⟨AF, AL, AS, Ae⟩ := A
  obtain ⟨BF, BL, BS, Be⟩ := B
  obtain ⟨CF, CL, CS, Ce⟩ := C
  replace clx : Ok Try.prog 14 [] [] (.pair (.int .i64 (n : Nat)) (.pair (edV x) .nul)) (fun r h' => r = .tup (.pair (.pair (lsV AF) (.pair (lsV AL) .nul)) (.pair (lsV AS) (.pair (.int .i64 Ae) .nul))) ∧ h' = []) := clx
  replace cls : Ok Try.prog 14 [] [] (.pair (.int .i64 (n : Nat)) (.pair (edV (x.map (scE (1 + k0)))) .nul)) (fun r h' => r = .tup (.pair (.pair (lsV BF) (.pair (lsV BL) .nul)) (.pair (lsV BS) (.pair (.int .i64 Be) .nul))) ∧ h' = []) := cls
  replace clm : Ok Try.prog 14 [] [] (.pair (.int .i64 (n : Nat)) (.pair (edV (x.map (mvE Lv))) .nul)) (fun r h' => r = .tup (.pair (.pair (lsV CF) (.pair (lsV CL) .nul)) (.pair (lsV CS) (.pair (.int .i64 Ce) .nul))) ∧ h' = []) := clm
  replace hS : (Ae = 14 ∧ Be = 14) ∨ (Ae = 0 ∧ Be = 0 ∧ inB x AF ∧ inB (x.map (scE (1 + k0))) AF ∧ inB (x.map (scE (1 + k0))) BF ∧ cost (x.map (scE (1 + k0))) BF = cost (x.map (scE (1 + k0))) AF) := hS
  replace hM : (Ae = 14 ∧ Ce = 14) ∨ (Ae = 0 ∧ Ce = 0 ∧ inB x AF ∧ inB (x.map (mvE Lv)) CF ∧ cost (x.map (mvE Lv)) CF = cost x AF) := hM
  replace x1 : AF.length ≤ 256 := x1
  replace s1 : BF.length ≤ 256 := s1
  replace m1 : CF.length ≤ 256 := m1
  obtain ⟨y, hy⟩ : ∃ y, y = x.map (scE (1 + k0)) := ⟨_, rfl⟩
  obtain ⟨z, hz⟩ : ∃ z, z = x.map (mvE Lv) := ⟨_, rfl⟩
  rw [← hy] at cos cls hS l1 okS hcs
  rw [← hz] at com clm hM l2 okM hcm
  have hyg : ∀ j, j < x.length → y.getD j edZ = scE (1 + k0) (x.getD j edZ) := fun j hj => by rw [hy]; exact map_getD hj
  have hzg : ∀ j, j < x.length → z.getD j edZ = mvE Lv (x.getD j edZ) := fun j hj => by rw [hz]; exact map_getD hj
  clear hy hz
  refine Ok.of_vcC tt_ok Try.func8 rfl rfl (by show 3 ≤ _; decide) 0 (hlt_ok (by rfl)) fun c0 => ?_
  repeat' (first | (refine SS_ ?_) | (refine Seq.callp true (cn) Try.func9 GOk.nil subG.nil (by rfl) (by rfl) rfl rfl rfl rfl rfl (by rfl) rfl VW_ NI_ NI_ FR_ ?_) | (refine Seq.callp true (ck) Try.func12 GOk.nil subG.nil (by rfl) (by rfl) rfl rfl rfl rfl rfl (by rfl) rfl VW_ NI_ NI_ FR_ ?_) | (refine Seq.callp true (cox) Try.func15 GOk.nil subG.nil (by rfl) (by rfl) rfl rfl rfl rfl rfl (by rfl) rfl VW_ NI_ NI_ FR_ ?_) | (refine Seq.callp true (clx) Try.func14 GOk.nil subG.nil (by rfl) (by rfl) rfl rfl rfl rfl rfl (by rfl) rfl VW_ NI_ NI_ FR_ ?_) | fail)
  refine VC.conv (Sim.ghost 13 5 (fun i => edA (([] : List Ed).getD i edZ)) (by rfl) (.inl rfl)) ?_
  refine VC.conv (Sim.ghost 14 5 (fun i => edA (([] : List Ed).getD i edZ)) (by rfl) (.inl rfl)) ?_
  refine VC.loop (fun j : Nat => ⟨[(15, .int .i64 (j : Nat)), (14, .sl 2 [] 5 0 (z.take j).length), (13, .sl 1 [] 5 0 (y.take j).length), (12, .int .i64 Ae), (10, .ptr 0 []), (9, .int .i64 (1 + k0)), (8, edT x), (7, .int .i64 (n : Nat)), (2, liV L)], [(2, .arr (z.take j).length 5 (fun i => edA ((z.take j).getD i edZ))), (1, .arr (y.take j).length 5 (fun i => edA ((y.take j).getD i edZ))), (0, .pair (lsV AF) (.pair (lsV AL) .nul))], [], 3⟩) (fun j => j ≤ x.length) (fun j => x.length - j) 0 (by omega) (by
    (refine Sim.less [] (by rfl) ?_ ?_ <;> (repeat' (first | (exact EnvLe.nil) | (exact HeapLe.nil) | (with_reducible apply EnvLe.cons) | (with_reducible apply HeapLe.cons) | ((with_reducible refine RelA.int ?_; first | (refine Keep.mk ?_; first | with_reducible rfl | omega | decide) | skip)) | (exact rfl) | (exact ⟨rfl, rfl⟩) | ((with_reducible refine RelA.rsl ?_; intro i hi)) | (with_reducible refine RelA.pair ?_ ?_) | ((refine RelA.arr ?_; intro i hi)) | fail)) <;> (try with_reducible refine Keep.mk ?_))
    all_goals rfl) fun j hj => ?_
  by_cases hjl : j < x.length
  · have hs1 := take_snoc (d := edZ) (l := y) (k := j) (by omega)
    have hs2 := take_snoc (d := edZ) (l := z) (k := j) (by omega)
    have hjj : ((j : Nat) : Int).toNat = j := Int.toNat_natCast j
    have hb := hed _ (getD_mem' hjl)
    have hm := mul_bd (k := 1 + k0) (c := (x.getD j edZ).c) (by omega) (by omega) (by omega) (by omega)
    have ta := hat (x.getD j edZ).a
    have tb := hat (x.getD j edZ).b
    have ca := cat (x.getD j edZ).a
    have cb := cat (x.getD j edZ).b
    rw [hyg j hjl] at hs1
    rw [hzg j hjl] at hs2
    rw [show x.getD j edZ = x.getD ((j : Nat) : Int).toNat edZ by rw [hjj]] at hs1 hs2 hb hm ta tb ca cb
    have ht1 : (y.take j).length = j := by rw [List.length_take]; omega
    have ht2 : (z.take j).length = j := by rw [List.length_take]; omega
    generalize hT1 : y.take (j + 1) = T1 at *
    generalize hT2 : z.take (j + 1) = T2 at *
    generalize y.take j = U1 at *
    generalize z.take j = U2 at *
    repeat' (first | (refine SS_ ?_) | (refine VC.drawm (id := 13) [(0, 0), (1, 1), (2, 0), (3, 0), (4, 8), (5, 28), (6, 63), (7, 0), (8, 0), (9, 256), (10, 956), (11, 2047), (12, 4095)] [13] (by rfl) (by kernel_rfl) (by rfl) ?_) | (refine DSeq.callp true (ca) Try.func26 GOk.nil subG.nil (by rfl) (fastE (by rfl)) (fastH (by rfl)) (by rfl) (by rfl) rfl rfl rfl rfl rfl (by rfl) (by rfl) VW_ NI_ NI_ FR_ ?_) | (refine DSeq.callp true (cb) Try.func26 GOk.nil subG.nil (by rfl) (fastE (by rfl)) (fastH (by rfl)) (by rfl) (by rfl) rfl rfl rfl rfl rfl (by rfl) (by rfl) VW_ NI_ NI_ FR_ ?_) | (refine VC.litT (by rfl) LTR_ ?_) | (refine DD_ ?_) | fail)
    refine ⟨j + 1, by omega, by omega, ?_⟩
    show ∀ a w, _ → Sim _ ⟨[(15, .int .i64 ((j + 1 : Nat) : Int)), (14, .sl 2 [] 5 0 (z.take (j + 1)).length), (13, .sl 1 [] 5 0 (y.take (j + 1)).length), (12, .int .i64 Ae), (10, .ptr 0 []), (9, .int .i64 (1 + k0)), (8, edT x), (7, .int .i64 (n : Nat)), (2, liV L)], [(2, .arr (z.take (j + 1)).length 5 (fun i => edA ((z.take (j + 1)).getD i edZ))), (1, .arr (y.take (j + 1)).length 5 (fun i => edA ((y.take (j + 1)).getD i edZ))), (0, .pair (lsV AF) (.pair (lsV AL) .nul))], [], 3⟩ a w
    rw [hT1, hT2, hs1, hs2, List.length_append, List.length_singleton, List.length_append, List.length_singleton]
    (refine Sim.less [(1, 5), (2, 8)] (by rfl) ?_ ?_ <;> (repeat' (first | (exact EnvLe.nil) | (exact HeapLe.nil) | (with_reducible apply EnvLe.cons) | (with_reducible apply HeapLe.cons) | ((with_reducible refine RelA.int ?_; first | (refine Keep.mk ?_; first | with_reducible rfl | omega | decide) | skip)) | (exact rfl) | (exact ⟨rfl, rfl⟩) | ((with_reducible refine RelA.rsl ?_; intro i hi)) | (with_reducible refine RelA.pair ?_ ?_) | ((refine RelA.arr ?_; intro i hi)) | fail)) <;> (try with_reducible refine Keep.mk ?_))
    all_goals exact rel_snocG (G := edA) (fun e => NI_) (by assumption) (by rfl)
  · obtain rfl : j = x.length := by omega
    rw [show z.take x.length = z by rw [← l2]; exact List.take_length, show y.take x.length = y by rw [← l1]; exact List.take_length]
    rcases hS with ⟨rfl, rfl⟩ | ⟨rfl, rfl, i1, i2, i3, e1⟩
    · obtain rfl : Ce = 14 := by omega
      repeat' (first | (refine SS_ ?_) | (refine Seq.callp true (com) Try.func15 GOk.nil subG.nil (by rfl) (by rfl) rfl rfl rfl rfl rfl (by rfl) rfl VW_ NI_ NI_ FR_ ?_) | (refine Seq.callp true (clm) Try.func14 GOk.nil subG.nil (by rfl) (by rfl) rfl rfl rfl rfl rfl (by rfl) rfl VW_ NI_ NI_ FR_ ?_) | (refine Seq.callp true (cos) Try.func15 GOk.nil subG.nil (by rfl) (by rfl) rfl rfl rfl rfl rfl (by rfl) rfl VW_ NI_ NI_ FR_ ?_) | (refine Seq.callp true (cls) Try.func14 GOk.nil subG.nil (by rfl) (by rfl) rfl rfl rfl rfl rfl (by rfl) rfl VW_ NI_ NI_ FR_ ?_) | (refine Seq.callp true (cv) Try.func13 GOk.nil subG.nil (by rfl) (by rfl) rfl rfl rfl rfl rfl (by rfl) rfl VW_ NI_ NI_ FR_ ?_) | (refine VC.litT (by rfl) LTR_ ?_) | (refine VC.litF (by rfl) LFA_ ?_) | fail)
      (refine retC_mk ([(6, .bool true)]) ([]) 5 (Sim.less [] (by rfl) R_ R_) (retQ_ok (by rfl) ([]) (fun i av h => h) ⟨?_, ?_⟩)) <;> rfl
    · obtain ⟨rfl, i4, e2⟩ : Ce = 0 ∧ inB z CF ∧ cost z CF = cost x AF := by
        rcases hM with h | h
        · omega
        · exact ⟨h.2.1, h.2.2.2.1, h.2.2.2.2⟩
      have g1 := inB_len i1
      have g3 := inB_len i3
      have g4 := inB_len i4
      have kx := cost_ok (ok.cbd i1)
      have kc := cost_ok (okS.cbd i2)
      have ks := cost_ok (okS.cbd i3)
      have kd := cost_ok (okM.cbd i4)
      have d1 := hcx i1
      have d2 := hcs i2
      rw [e1] at ks
      rw [e2] at kd
      generalize cost x AF = u1 at *
      generalize cost y AF = u2 at *
      repeat' (first | (refine SS_ ?_) | (refine Seq.callp true (com) Try.func15 GOk.nil subG.nil (by rfl) (by rfl) rfl rfl rfl rfl rfl (by rfl) rfl VW_ NI_ NI_ FR_ ?_) | (refine Seq.callp true (clm) Try.func14 GOk.nil subG.nil (by rfl) (by rfl) rfl rfl rfl rfl rfl (by rfl) rfl VW_ NI_ NI_ FR_ ?_) | (refine Seq.callp true (cos) Try.func15 GOk.nil subG.nil (by rfl) (by rfl) rfl rfl rfl rfl rfl (by rfl) rfl VW_ NI_ NI_ FR_ ?_) | (refine Seq.callp true (cls) Try.func14 GOk.nil subG.nil (by rfl) (by rfl) rfl rfl rfl rfl rfl (by rfl) rfl VW_ NI_ NI_ FR_ ?_) | (refine VC.drawm (id := 21) [(0, 0), (1, 0), (2, 2), (3, 7), (4, 0), (5, 0), (6, 32), (7, 127), (8, 255), (9, 511), (10, 1023), (11, 1023), (12, 3071), (13, 8191), (14, 1023), (15, 1023), (16, 33791), (17, 131071), (18, 262143), (19, 524287), (20, 1048575), (21, 2097151), (22, 4194303)] [23] (by rfl) (by kernel_rfl) (by rfl) ?_) | (refine DSeq.callp true (ks) Try.func24 GOk.nil subG.nil (by rfl) (fastE (by rfl)) (fastH (by rfl)) (by rfl) (by rfl) rfl rfl rfl rfl rfl (by rfl) (by rfl) VW_ NI_ NI_ FR_ ?_) | (refine DSeq.callp true (kc) Try.func24 GOk.nil subG.nil (by rfl) (fastE (by rfl)) (fastH (by rfl)) (by rfl) (by rfl) rfl rfl rfl rfl rfl (by rfl) (by rfl) VW_ NI_ NI_ FR_ ?_) | (refine DSeq.callp true (kd) Try.func24 GOk.nil subG.nil (by rfl) (fastE (by rfl)) (fastH (by rfl)) (by rfl) (by rfl) rfl rfl rfl rfl rfl (by rfl) (by rfl) VW_ NI_ NI_ FR_ ?_) | (refine DSeq.callp true (kx) Try.func24 GOk.nil subG.nil (by rfl) (fastE (by rfl)) (fastH (by rfl)) (by rfl) (by rfl) rfl rfl rfl rfl rfl (by rfl) (by rfl) VW_ NI_ NI_ FR_ ?_) | (refine DSeq.callp true (cv) Try.func13 GOk.nil subG.nil (by rfl) (fastE (by rfl)) (fastH (by rfl)) (by rfl) (by rfl) rfl rfl rfl rfl rfl (by rfl) (by rfl) VW_ NI_ NI_ FR_ ?_) | (refine Seq.lit (by rfl) (by rfl) LT2_ ?_) | (refine VC.litF (by rfl) LFA_ ?_) | (refine DD_ ?_) | (refine DSeq.lit2 (by rfl) (by rfl) (by rfl) LT2_ (by rfl) ?_) | fail)
      (refine retC_mk ([(6, .bool true)]) ([]) 5 (Sim.less [] (by rfl) R_ R_) (retQ_ok (by rfl) ([]) (fun i av h => h) ⟨?_, ?_⟩)) <;> rfl
end Go.Proofs.Ytkpidpmlehkjbaa
