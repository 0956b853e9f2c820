/- Flow: the reference's way. -/
import Derived.Test.YtkpidpmlehkjbaaWr
set_option linter.unusedSimpArgs false
set_option linter.unusedVariables false
namespace Go.Fl
theorem wyJ_1 {rec : List Bool → Int → Option (List Nat) × List Bool} {l : List Ed} {F : List Int} {v : Int} {x : Nat} {M : List Bool} (hx : x < 2 * l.length) :
    wyJ rec l F v (2 * l.length - x) M = if aF l x = v ∧ M.getD (aT l x).toNat false = false ∧ 0 < aR l F x then
      match rec M (aT l x) with
      | (some P, M') => (some (P ++ [x]), M')
      | (none, M') => wyJ rec l F v (2 * l.length - (x + 1)) M'
    else wyJ rec l F v (2 * l.length - (x + 1)) M := by
  have e : 2 * l.length - (2 * l.length - (x + 1) + 1) = x := by omega
  rw [show 2 * l.length - x = (2 * l.length - (x + 1)) + 1 by omega, wyJ, e]
  rfl
/-- The flow behind a search. -/
def wyFl (F : List Int) : Option (List Nat) → List Int
  | some P => pus 1 F P
  | none => F
end Go.Fl
namespace Go.Proofs.Ytkpidpmlehkjbaa
open Go.V Go.RowKit Go.L Go.Lx Go.Fl
set_option maxRecDepth 10000
set_option maxHeartbeats 4000000
abbrev boO (l : List Bool) : AV := .arr l.length 1 (fun i => .bool (l.getD i false))
abbrev wyH (F : List Int) (M : List Bool) : Asc := [(0, liO F), (1, boO M)]
abbrev wyA (n : Nat) (l : List Ed) (b : List Int) (v : Int) : AV := .pair (edV l) (.pair (.sl 0 [] 1 0 l.length) (.pair (liV b) (.pair (.sl 1 [] 1 0 n) (.pair (.int .i64 v) .nul))))
theorem rway_ok {n : Nat} {l : List Ed} {F b : List Int} (ok : NetOk n l) (hF : inB l F) (hbl : b.length = n) : ∀ (q : Nat) (M : List Bool) (v : Int), M.length = n → unm M ≤ q → 0 ≤ v → v < n → M.getD v.toNat false = false →
    Ok Try.prog 40 [] (wyH F M) (wyA n l b v) (fun r h' => r = .bool (wy b l F q M v).1.isSome ∧ h' = wyH (wyFl F (wy b l F q M v).1) (wy b l F q M v).2)
  | 0, M, v, hM, hq, h0, h1, hv => by
    have := unm_set (M := M) (i := v.toNat) (by omega) hv
    omega
  | q + 1, M, v, hM, hq, h0, h1, hv => by
    have hn := ok.nodes
    have hlen := (inB_iff.1 hF).1
    have hl256 := ok.l256
    have hn64 := ok.n64
    have hu := unm_set (M := M) (i := v.toNat) (by omega) hv
    rw [wy]
    by_cases hb : b.getD v.toNat 0 < 0
    · rw [if_pos hb]
      refine Ok.of_vcC tt_ok Try.func40 rfl rfl (by show 5 ≤ _; decide) 2 (hlt_ok (by rfl)) fun c0 => ?_
      repeat' (first | (refine SS_ ?_) | (refine VC.litT (by rfl) LTR_ ?_) | fail)
      (refine retC_mk ([(10, .bool true)]) (wyH F M) 2 (Sim.less [] (by rfl) R_ R_) (retQ_ok (by rfl) (wyH F M) (fun i av h => h) ⟨?_, ?_⟩)) <;> rfl
    · rw [if_neg hb]
      refine Ok.of_vcC tt_ok Try.func40 rfl rfl (by show 5 ≤ _; decide) 2 (hlt_ok (by rfl)) fun c0 => ?_
      repeat' (first | (refine SS_ ?_) | (refine VC.litF (by rfl) LFA_ ?_) | fail)
      refine VC.loop (fun k : Nat × List Bool => ⟨[(11, .int .i64 (k.1 : Nat)), (4, .int .i64 v), (3, .sl 1 [] 1 0 n), (2, liV b), (1, .sl 0 [] 1 0 l.length), (0, edV l)], [(0, liO F), (1, .arr n 1 (fun i => .bool (k.2.getD i false)))], [], 2⟩) (fun k => k.1 ≤ l.length ∧ k.2.length = n ∧ unm k.2 ≤ q ∧ met k.2 v ∧ wyJ (wy b l F q) l F v (2 * l.length - 2 * k.1) k.2 = wyJ (wy b l F q) l F v (2 * l.length) (M.set v.toNat true)) (fun k => l.length - k.1) (0, M.set v.toNat true) ⟨by omega, by rw [List.length_set]; exact hM, by show unm (M.set v.toNat true) ≤ q; omega, ⟨h0, by show (M.set v.toNat true).getD v.toNat false = true; rw [getD_setB, if_pos ⟨rfl, by omega⟩]⟩, rfl⟩ (by
        (refine Sim.less [] (by rfl) ?_ ?_ <;> (repeat' (first | (exact EnvLe.nil) | (exact HeapLe.nil) | (with_reducible apply EnvLe.cons) | (with_reducible apply HeapLe.cons) | ((with_reducible refine RelA.int ?_; first | (refine Keep.mk ?_; first | with_reducible rfl | omega | decide) | skip)) | (exact rfl) | (exact ⟨rfl, rfl⟩) | ((with_reducible refine RelA.rsl ?_; intro i hi)) | ((with_reducible refine RelA.arr ?_; intro i hi)) | (with_reducible refine RelA.pair ?_ ?_) | (((first | refine RelA.rslL (by first | rfl | ((try simp only [List.length_take, List.length_drop, List.length_append, List.length_cons, List.length_nil, List.length_map, List.length_range]); omega)) ?_ | refine RelA.rslT (by first | rfl | ((try simp only [List.length_take, List.length_drop, List.length_append, List.length_cons, List.length_nil, List.length_map, List.length_range]); omega)) ?_ | refine RelA.arrL (by first | rfl | ((try simp only [List.length_take, List.length_drop, List.length_append, List.length_cons, List.length_nil, List.length_map, List.length_range]); omega)) ?_); intro i hi; (try simp only [List.length_take, List.length_drop] at hi); (try simp (disch := omega) only [getD_take, getD_drop, Nat.zero_add, Int.toNat_natCast]))) | fail)) <;> (try with_reducible refine Keep.mk ?_))
        rw [getD_setB]
        by_cases e : i = v.toNat
        · rw [bif_eq e, if_pos ⟨e.symm, by omega⟩]; exact NoId.self NI_
        · rw [bif_ne e, if_neg (fun h => e h.1.symm)]; exact NoId.self NI_) fun k hk => ?_
      obtain ⟨i, M1⟩ := k
      obtain ⟨k1, k2, k3, k4, k5⟩ := hk
      replace k1 : i ≤ l.length := k1
      replace k2 : M1.length = n := k2
      replace k3 : unm M1 ≤ q := k3
      replace k4 : met M1 v := k4
      replace k5 : wyJ (wy b l F q) l F v (2 * l.length - 2 * i) M1 = wyJ (wy b l F q) l F v (2 * l.length) (M.set v.toNat true) := k5
      refine VC.conv (s' := ⟨[(11, .int .i64 (i : Nat)), (4, .int .i64 v), (3, .sl 1 [] 1 0 n), (2, liV b), (1, .sl 0 [] 1 0 l.length), (0, edV l)], [(0, liO F), (1, .arr n 1 (fun i => .bool (M1.getD i false)))], [], 2⟩) (fun a w h => h) ?_
      rw [← k5]
      by_cases him : i < l.length
      · have he := ok.get him
        have hf := ok.flow hF i him
        have hkk : ((i : Nat) : Int).toNat = i := Int.toNat_natCast i
        have a1 : aF l (2 * i) = (l.getD i edZ).a := by rw [aF, if_pos (by omega), show 2 * i / 2 = i by omega]
        have a2 : aT l (2 * i) = (l.getD i edZ).b := by rw [aT, if_pos (by omega), show 2 * i / 2 = i by omega]
        have a3 : aR l F (2 * i) = (l.getD i edZ).hi - F.getD i 0 := by rw [aR, if_pos (by omega), show 2 * i / 2 = i by omega]
        have b1 : aF l (2 * i + 1) = (l.getD i edZ).b := by rw [aF, if_neg (by omega), show (2 * i + 1) / 2 = i by omega]
        have b2 : aT l (2 * i + 1) = (l.getD i edZ).a := by rw [aT, if_neg (by omega), show (2 * i + 1) / 2 = i by omega]
        have b3 : aR l F (2 * i + 1) = F.getD i 0 - (l.getD i edZ).lo := by rw [aR, if_neg (by omega), show (2 * i + 1) / 2 = i by omega]
        have ft : F.getD (0 + ((i : Nat) : Int).toNat) 0 = F.getD i 0 := by rw [hkk, Nat.zero_add]
        have et : l.getD ((i : Nat) : Int).toNat edZ = l.getD i edZ := by rw [hkk]
        repeat' (first | (refine SS_ ?_) | (refine VC.litT (by rfl) LTR_ ?_) | fail)
        refine VC.join2 (X := List Bool) (fun M2 => ⟨[(11, .int .i64 (i : Nat)), (4, .int .i64 v), (3, .sl 1 [] 1 0 n), (2, liV b), (1, .sl 0 [] 1 0 l.length), (0, edV l)], [(0, liO F), (1, .arr n 1 (fun i => .bool (M2.getD i false)))], [], 2⟩) (fun M2 => M2.length = n ∧ unm M2 ≤ q ∧ met M2 v ∧ wyJ (wy b l F q) l F v (2 * l.length - 2 * i) M1 = wyJ (wy b l F q) l F v (2 * l.length - (2 * i + 1)) M2) ?_ ?_
        · rw [wyJ_1 (show 2 * i < 2 * l.length by omega), a1, a2, a3]
          by_cases q1 : (l.getD i edZ).a = v
          · by_cases q2 : M1.getD (l.getD i edZ).b.toNat false = false
            · by_cases q3 : 0 < (l.getD i edZ).hi - F.getD i 0
              · have c1 := rway_ok ok hF hbl q M1 (l.getD i edZ).b k2 k3 (by omega) (by omega) q2
                have w1 := wy_ok (b := b) (F := F) hn q k2 k3 (show 0 ≤ (l.getD i edZ).b by omega) (by omega) q2
                rw [if_pos ⟨q1, q2, q3⟩]
                rw [← et] at c1 he q1 q2 q3 w1 ⊢
                have q4 : M1.getD (0 + (l.getD ((i : Nat) : Int).toNat edZ).b.toNat) false = false := by rw [Nat.zero_add]; exact q2
                generalize wy b l F q M1 (l.getD ((i : Nat) : Int).toNat edZ).b = r at *
                obtain ⟨r1, M'⟩ := r
                cases r1 with
                | some P =>
                  obtain ⟨u, u0, u1, u2, u3, u4, u5, u6⟩ := w1.yes P rfl
                  have hinb := inB_pus (d := 1) hF (by omega) (P := P) (fun x hx => ⟨by have := (u4 x hx).1; omega, by have := (u4 x hx).2.1; omega⟩) (edges_of u3 u5 u6)
                  have hg := ok.flow hinb i him
                  have hgl := (inB_iff.1 hinb).1
                  have hpe : pus 1 F (P ++ [2 * i]) = (pus 1 F P).set i ((pus 1 F P).getD (0 + ((i : Nat) : Int).toNat) 0 + 1) := by
                    rw [pus, List.foldl_append]
                    show pu 1 (pus 1 F P) (2 * i) = _
                    rw [pu, aS, if_pos (by omega), show 2 * i / 2 = i by omega, hkk, Nat.zero_add]; simp; try rfl
                  have hg : -10 ≤ (pus 1 F P).getD (0 + ((i : Nat) : Int).toNat) 0 ∧ (pus 1 F P).getD (0 + ((i : Nat) : Int).toNat) 0 ≤ 1000 := by rw [hkk, Nat.zero_add]; omega
                  have hml : M'.length = M1.length := w1.sub.1
                  generalize hG : pus 1 F P = G at *
                  replace c1 : Ok Try.prog 40 [] (wyH F M1) (wyA n l b (l.getD ((i : Nat) : Int).toNat edZ).b) (fun r h' => r = .bool true ∧ h' = wyH G M') := by rw [← hG]; exact c1
                  repeat' (first | (refine SS_ ?_) | (refine VC.drawm (id := 7) [(0, 0), (1, 0), (2, 3), (3, 7), (4, 15), (5, 0), (6, 63), (7, 127), (8, 255), (9, 255), (10, 255), (11, 1791), (12, 3839), (13, 7935), (14, 16383), (15, 32767), (16, 65535), (17, 131071), (18, 262143), (19, 524287), (20, 524287), (21, 2097151), (22, 4194303), (23, 524287), (24, 524287), (25, 25690111), (26, 59244543), (27, 126353407), (28, 268435455), (29, 536870911)] [] (by rfl) (by kernel_rfl) (by rfl) ?_) | (refine Seq.callo false [] [] (.bool true) (wyH G M') 2 (c1) Try.func40 GOk.nil subG.nil (by rfl) (by rfl) rfl rfl rfl rfl rfl (by rfl) rfl (by rfl) (by rfl) (by rfl) (by rfl) VW_ NI_ R_ (noFrL_ok NI_) BK_ ?_) | (refine VC.litT (by rfl) LTR_ ?_) | (refine VC.litF (by rfl) LFA_ ?_) | (refine DD_ ?_) | (refine DSeq.lit2 (by rfl) (by rfl) (by rfl) LT2_ (by rfl) ?_) | (refine DSeq.litC2 (by rfl) (by rfl) (by rfl) (by rfl) (by rfl) (fun hb => ?_) (fun hb => ?_) <;> (fail_if_success (with_reducible have := litT_ hb)) <;> (fail_if_success (with_reducible have := litF_ hb)) <;> (try simp only [HB_] at hb) <;> (try (exfalso; first | omega | (cases hb; done)))) | fail)
                  all_goals first | (exfalso; rw [q4] at hb; cases hb; done) | (exfalso; rename_i hx; rw [q4] at hx; cases hx; done) | (exfalso; rename_i hx _; rw [q4] at hx; cases hx; done) | skip
                  show retC _ _ _ (fun r h' => r = AV.bool true ∧ h' = wyH (pus 1 F (P ++ [2 * i])) M') _ _
                  rw [hpe]
                  refine retC_mk ([(10, .bool true)]) ([(0, .arr G.length 1 (fun j => .int .i64 ((G.set i (G.getD (0 + ((i : Nat) : Int).toNat) 0 + 1)).getD j 0))), (1, boO M')]) 2 ?_ (retQ_ok (by rfl) ([(0, .arr G.length 1 (fun j => .int .i64 ((G.set i (G.getD (0 + ((i : Nat) : Int).toNat) 0 + 1)).getD j 0))), (1, boO M')]) (fun i av h => h) ⟨?_, ?_⟩)
                  · (refine Sim.less [] (by rfl) ?_ ?_ <;> (repeat' (first | (exact EnvLe.nil) | (exact HeapLe.nil) | (with_reducible apply EnvLe.cons) | (with_reducible apply HeapLe.cons) | (exact rfl) | ((with_reducible refine RelA.arr ?_; intro i hi)) | fail)) <;> (try with_reducible refine Keep.mk ?_))
                    rw [hkk]
                    exact rel_setG (G := fun q : Int => .int .i64 q) (fun e => NI_) (by omega) rfl
                  · rfl
                  · show _ = [(0, AV.arr (G.set i _).length 1 _), (1, boO M')]
                    rw [List.length_set]
                | none =>
                  have hml : M'.length = M1.length := w1.sub.1
                  have hun := unm_le w1.sub
                  replace c1 : Ok Try.prog 40 [] (wyH F M1) (wyA n l b (l.getD ((i : Nat) : Int).toNat edZ).b) (fun r h' => r = .bool false ∧ h' = wyH F M') := c1
                  repeat' (first | (refine SS_ ?_) | (refine VC.drawm (id := 7) [(0, 0), (1, 0), (2, 3), (3, 7), (4, 15), (5, 0), (6, 63), (7, 127), (8, 255), (9, 255), (10, 255), (11, 1791), (12, 3839), (13, 7935), (14, 16383), (15, 32767), (16, 65535), (17, 131071), (18, 262143), (19, 524287), (20, 524287), (21, 2097151), (22, 4194303), (23, 524287), (24, 524287), (25, 25690111), (26, 59244543), (27, 126353407), (28, 268435455), (29, 536870911)] [] (by rfl) (by kernel_rfl) (by rfl) ?_) | (refine Seq.callo false [] [] (.bool false) (wyH F M') 2 (c1) Try.func40 GOk.nil subG.nil (by rfl) (by rfl) rfl rfl rfl rfl rfl (by rfl) rfl (by rfl) (by rfl) (by rfl) (by rfl) VW_ NI_ R_ (noFrL_ok NI_) BK_ ?_) | (refine VC.litT (by rfl) LTR_ ?_) | (refine VC.litF (by rfl) LFA_ ?_) | (refine DD_ ?_) | (refine DSeq.lit2 (by rfl) (by rfl) (by rfl) LT2_ (by rfl) ?_) | (refine DSeq.litC2 (by rfl) (by rfl) (by rfl) (by rfl) (by rfl) (fun hb => ?_) (fun hb => ?_) <;> (fail_if_success (with_reducible have := litT_ hb)) <;> (fail_if_success (with_reducible have := litF_ hb)) <;> (try simp only [HB_] at hb) <;> (try (exfalso; first | omega | (cases hb; done)))) | fail)
                  all_goals first | (exfalso; rw [q4] at hb; cases hb; done) | (exfalso; rename_i hx; rw [q4] at hx; cases hx; done) | (exfalso; rename_i hx _; rw [q4] at hx; cases hx; done) | skip
                  refine ⟨M', ⟨hml.trans k2, Nat.le_trans hun k3, met_sub w1.sub k4, rfl⟩, ?_⟩
                  exact (Sim.less [] (by rfl) R_ R_)
              · rw [if_neg (fun h => q3 h.2.2)]
                have q4 : M1.getD (0 + (l.getD ((i : Nat) : Int).toNat edZ).b.toNat) false = false := by rw [Nat.zero_add, et]; exact q2
                rw [← et] at he q1 q3
                repeat' (first | (refine SS_ ?_) | (refine VC.drawm (id := 7) [(0, 0), (1, 0), (2, 3), (3, 7), (4, 15), (5, 0), (6, 63), (7, 127), (8, 255), (9, 255), (10, 255), (11, 1791), (12, 3839), (13, 7935), (14, 16383), (15, 32767), (16, 65535), (17, 131071), (18, 262143), (19, 524287), (20, 524287), (21, 2097151), (22, 4194303), (23, 524287), (24, 524287), (25, 25690111), (26, 59244543), (27, 126353407), (28, 268435455), (29, 536870911)] [] (by rfl) (by kernel_rfl) (by rfl) ?_) | (refine VC.litF (by rfl) LFA_ ?_) | (refine DD_ ?_) | (refine DSeq.lit2 (by rfl) (by rfl) (by rfl) LT2_ (by rfl) ?_) | (refine DSeq.litC2 (by rfl) (by rfl) (by rfl) (by rfl) (by rfl) (fun hb => ?_) (fun hb => ?_) <;> (fail_if_success (with_reducible have := litT_ hb)) <;> (fail_if_success (with_reducible have := litF_ hb)) <;> (try simp only [HB_] at hb) <;> (try (exfalso; first | omega | (cases hb; done)))) | fail)
                all_goals first | (exfalso; rw [q4] at hb; cases hb; done) | (exfalso; rename_i hx; rw [q4] at hx; cases hx; done) | (exfalso; rename_i hx _; rw [q4] at hx; cases hx; done) | skip
                refine ⟨M1, ⟨k2, k3, k4, rfl⟩, ?_⟩
                exact (Sim.less [] (by rfl) R_ R_)
            · rw [if_neg (fun h => q2 h.2.1)]
              rw [Bool.not_eq_false] at q2
              have q4 : M1.getD (0 + (l.getD ((i : Nat) : Int).toNat edZ).b.toNat) false = true := by rw [Nat.zero_add, et]; exact q2
              rw [← et] at he q1
              repeat' (first | (refine SS_ ?_) | (refine VC.drawm (id := 7) [(0, 0), (1, 0), (2, 3), (3, 7), (4, 15), (5, 0), (6, 63), (7, 127), (8, 255), (9, 255), (10, 255), (11, 1791), (12, 3839), (13, 7935), (14, 16383), (15, 32767), (16, 65535), (17, 131071), (18, 262143), (19, 524287), (20, 524287), (21, 2097151), (22, 4194303), (23, 524287), (24, 524287), (25, 25690111), (26, 59244543), (27, 126353407), (28, 268435455), (29, 536870911)] [] (by rfl) (by kernel_rfl) (by rfl) ?_) | (refine VC.litF (by rfl) LFA_ ?_) | (refine DD_ ?_) | (refine DSeq.lit2 (by rfl) (by rfl) (by rfl) LT2_ (by rfl) ?_) | (refine VC.cond (by rfl) (fun hb => ?_) (fun hb => ?_) <;> (fail_if_success (with_reducible have := litT_ hb)) <;> (fail_if_success (with_reducible have := litF_ hb)) <;> (try simp only [HB_] at hb) <;> (try (exfalso; first | omega | (cases hb; done)))) | (refine DSeq.litC2 (by rfl) (by rfl) (by rfl) (by rfl) (by rfl) (fun hb => ?_) (fun hb => ?_) <;> (fail_if_success (with_reducible have := litT_ hb)) <;> (fail_if_success (with_reducible have := litF_ hb)) <;> (try simp only [HB_] at hb) <;> (try (exfalso; first | omega | (cases hb; done)))) | fail)
              all_goals first | (exfalso; rw [q4] at hb; cases hb; done) | (exfalso; rename_i hx; rw [q4] at hx; cases hx; done) | (exfalso; rename_i hx _; rw [q4] at hx; cases hx; done) | skip
              refine ⟨M1, ⟨k2, k3, k4, rfl⟩, ?_⟩
              exact (Sim.less [] (by rfl) R_ R_)
          · rw [if_neg (fun h => q1 h.1)]
            rw [← et] at he q1
            repeat' (first | (refine SS_ ?_) | (refine VC.drawm (id := 7) [(0, 0), (1, 0), (2, 3), (3, 7), (4, 15), (5, 0), (6, 63), (7, 127), (8, 255), (9, 255), (10, 255), (11, 1791), (12, 3839), (13, 7935), (14, 16383), (15, 32767), (16, 65535), (17, 131071), (18, 262143), (19, 524287), (20, 524287), (21, 2097151), (22, 4194303), (23, 524287), (24, 524287), (25, 25690111), (26, 59244543), (27, 126353407), (28, 268435455), (29, 536870911)] [] (by rfl) (by kernel_rfl) (by rfl) ?_) | (refine VC.litF (by rfl) LFA_ ?_) | (refine DD_ ?_) | (refine DSeq.lit2 (by rfl) (by rfl) (by rfl) LT2_ (by rfl) ?_) | fail)
            refine ⟨M1, ⟨k2, k3, k4, rfl⟩, ?_⟩
            exact (Sim.less [] (by rfl) R_ R_)
        · rintro M2 ⟨m2, m3, m4, m5⟩
          rw [m5] at k5 ⊢
          obtain ⟨TOT, hT⟩ : ∃ T, wyJ (wy b l F q) l F v (2 * l.length - (2 * i + 1)) M2 = T := ⟨_, rfl⟩
          rw [hT] at k5 ⊢
          rw [wyJ_1 (show 2 * i + 1 < 2 * l.length by omega), b1, b2, b3] at hT
          by_cases q1 : (l.getD i edZ).b = v
          · by_cases q2 : M2.getD (l.getD i edZ).a.toNat false = false
            · by_cases q3 : 0 < F.getD i 0 - (l.getD i edZ).lo
              · have c1 := rway_ok ok hF hbl q M2 (l.getD i edZ).a m2 m3 (by omega) (by omega) q2
                have w1 := wy_ok (b := b) (F := F) hn q m2 m3 (show 0 ≤ (l.getD i edZ).a by omega) (by omega) q2
                rw [if_pos ⟨q1, q2, q3⟩] at hT
                rw [← et] at c1 he q1 q2 q3 w1 hT
                have q4 : M2.getD (0 + (l.getD ((i : Nat) : Int).toNat edZ).a.toNat) false = false := by rw [Nat.zero_add]; exact q2
                generalize wy b l F q M2 (l.getD ((i : Nat) : Int).toNat edZ).a = r at *
                obtain ⟨r1, M'⟩ := r
                cases r1 with
                | some P =>
                  obtain ⟨u, u0, u1, u2, u3, u4, u5, u6⟩ := w1.yes P rfl
                  have hinb := inB_pus (d := 1) hF (by omega) (P := P) (fun x hx => ⟨by have := (u4 x hx).1; omega, by have := (u4 x hx).2.1; omega⟩) (edges_of u3 u5 u6)
                  have hg := ok.flow hinb i him
                  have hgl := (inB_iff.1 hinb).1
                  have hpe : pus 1 F (P ++ [2 * i + 1]) = (pus 1 F P).set i ((pus 1 F P).getD (0 + ((i : Nat) : Int).toNat) 0 - 1) := by
                    rw [pus, List.foldl_append]
                    show pu 1 (pus 1 F P) (2 * i + 1) = _
                    rw [pu, aS, if_neg (by omega), show (2 * i + 1) / 2 = i by omega, hkk, Nat.zero_add]; simp; try rfl
                  have hg : -10 ≤ (pus 1 F P).getD (0 + ((i : Nat) : Int).toNat) 0 ∧ (pus 1 F P).getD (0 + ((i : Nat) : Int).toNat) 0 ≤ 1000 := by rw [hkk, Nat.zero_add]; omega
                  have hml : M'.length = M2.length := w1.sub.1
                  generalize hG : pus 1 F P = G at *
                  replace c1 : Ok Try.prog 40 [] (wyH F M2) (wyA n l b (l.getD ((i : Nat) : Int).toNat edZ).a) (fun r h' => r = .bool true ∧ h' = wyH G M') := by rw [← hG]; exact c1
                  repeat' (first | (refine SS_ ?_) | (refine VC.drawm (id := 11) [(0, 0), (1, 0), (2, 3), (3, 7), (4, 15), (5, 0), (6, 63), (7, 127), (8, 255), (9, 255), (10, 255), (11, 1791), (12, 3839), (13, 7935), (14, 16383), (15, 32767), (16, 65535), (17, 131071), (18, 262143), (19, 524287), (20, 524287), (21, 2097151), (22, 4194303), (23, 524287), (24, 524287), (25, 25690111), (26, 59244543), (27, 126353407), (28, 268435455), (29, 536870911)] [] (by rfl) (by kernel_rfl) (by rfl) ?_) | (refine Seq.callo false [] [] (.bool true) (wyH G M') 2 (c1) Try.func40 GOk.nil subG.nil (by rfl) (by rfl) rfl rfl rfl rfl rfl (by rfl) rfl (by rfl) (by rfl) (by rfl) (by rfl) VW_ NI_ R_ (noFrL_ok NI_) BK_ ?_) | (refine VC.litT (by rfl) LTR_ ?_) | (refine VC.litF (by rfl) LFA_ ?_) | (refine DD_ ?_) | (refine DSeq.lit2 (by rfl) (by rfl) (by rfl) LT2_ (by rfl) ?_) | (refine DSeq.litC2 (by rfl) (by rfl) (by rfl) (by rfl) (by rfl) (fun hb => ?_) (fun hb => ?_) <;> (fail_if_success (with_reducible have := litT_ hb)) <;> (fail_if_success (with_reducible have := litF_ hb)) <;> (try simp only [HB_] at hb) <;> (try (exfalso; first | omega | (cases hb; done)))) | fail)
                  all_goals first | (exfalso; rw [q4] at hb; cases hb; done) | (exfalso; rename_i hx; rw [q4] at hx; cases hx; done) | (exfalso; rename_i hx _; rw [q4] at hx; cases hx; done) | skip
                  subst hT
                  show retC _ _ _ (fun r h' => r = AV.bool true ∧ h' = wyH (pus 1 F (P ++ [2 * i + 1])) M') _ _
                  rw [hpe]
                  refine retC_mk ([(10, .bool true)]) ([(0, .arr G.length 1 (fun j => .int .i64 ((G.set i (G.getD (0 + ((i : Nat) : Int).toNat) 0 - 1)).getD j 0))), (1, boO M')]) 2 ?_ (retQ_ok (by rfl) ([(0, .arr G.length 1 (fun j => .int .i64 ((G.set i (G.getD (0 + ((i : Nat) : Int).toNat) 0 - 1)).getD j 0))), (1, boO M')]) (fun i av h => h) ⟨?_, ?_⟩)
                  · (refine Sim.less [] (by rfl) ?_ ?_ <;> (repeat' (first | (exact EnvLe.nil) | (exact HeapLe.nil) | (with_reducible apply EnvLe.cons) | (with_reducible apply HeapLe.cons) | (exact rfl) | ((with_reducible refine RelA.arr ?_; intro i hi)) | fail)) <;> (try with_reducible refine Keep.mk ?_))
                    rw [hkk]
                    exact rel_setG (G := fun q : Int => .int .i64 q) (fun e => NI_) (by omega) rfl
                  · rfl
                  · show _ = [(0, AV.arr (G.set i _).length 1 _), (1, boO M')]
                    rw [List.length_set]
                | none =>
                  have hml : M'.length = M2.length := w1.sub.1
                  have hun := unm_le w1.sub
                  replace c1 : Ok Try.prog 40 [] (wyH F M2) (wyA n l b (l.getD ((i : Nat) : Int).toNat edZ).a) (fun r h' => r = .bool false ∧ h' = wyH F M') := c1
                  repeat' (first | (refine SS_ ?_) | (refine VC.drawm (id := 11) [(0, 0), (1, 0), (2, 3), (3, 7), (4, 15), (5, 0), (6, 63), (7, 127), (8, 255), (9, 255), (10, 255), (11, 1791), (12, 3839), (13, 7935), (14, 16383), (15, 32767), (16, 65535), (17, 131071), (18, 262143), (19, 524287), (20, 524287), (21, 2097151), (22, 4194303), (23, 524287), (24, 524287), (25, 25690111), (26, 59244543), (27, 126353407), (28, 268435455), (29, 536870911)] [] (by rfl) (by kernel_rfl) (by rfl) ?_) | (refine Seq.callo false [] [] (.bool false) (wyH F M') 2 (c1) Try.func40 GOk.nil subG.nil (by rfl) (by rfl) rfl rfl rfl rfl rfl (by rfl) rfl (by rfl) (by rfl) (by rfl) (by rfl) VW_ NI_ R_ (noFrL_ok NI_) BK_ ?_) | (refine VC.litT (by rfl) LTR_ ?_) | (refine VC.litF (by rfl) LFA_ ?_) | (refine DD_ ?_) | (refine DSeq.lit2 (by rfl) (by rfl) (by rfl) LT2_ (by rfl) ?_) | (refine DSeq.litC2 (by rfl) (by rfl) (by rfl) (by rfl) (by rfl) (fun hb => ?_) (fun hb => ?_) <;> (fail_if_success (with_reducible have := litT_ hb)) <;> (fail_if_success (with_reducible have := litF_ hb)) <;> (try simp only [HB_] at hb) <;> (try (exfalso; first | omega | (cases hb; done)))) | fail)
                  all_goals first | (exfalso; rw [q4] at hb; cases hb; done) | (exfalso; rename_i hx; rw [q4] at hx; cases hx; done) | (exfalso; rename_i hx _; rw [q4] at hx; cases hx; done) | skip
                  refine ⟨(i + 1, M'), ⟨by show i + 1 ≤ _; omega, hml.trans m2, Nat.le_trans hun m3, met_sub w1.sub m4, ?_⟩, by show _ - (i + 1) < _ - i; omega, ?_⟩
                  · exact hT
                  · exact (Sim.less [] (by rfl) R_ R_)
              · rw [if_neg (fun h => q3 h.2.2)] at hT
                have q4 : M2.getD (0 + (l.getD ((i : Nat) : Int).toNat edZ).a.toNat) false = false := by rw [Nat.zero_add, et]; exact q2
                rw [← et] at he q1 q3
                repeat' (first | (refine SS_ ?_) | (refine VC.drawm (id := 11) [(0, 0), (1, 0), (2, 3), (3, 7), (4, 15), (5, 0), (6, 63), (7, 127), (8, 255), (9, 255), (10, 255), (11, 1791), (12, 3839), (13, 7935), (14, 16383), (15, 32767), (16, 65535), (17, 131071), (18, 262143), (19, 524287), (20, 524287), (21, 2097151), (22, 4194303), (23, 524287), (24, 524287), (25, 25690111), (26, 59244543), (27, 126353407), (28, 268435455), (29, 536870911)] [] (by rfl) (by kernel_rfl) (by rfl) ?_) | (refine VC.litF (by rfl) LFA_ ?_) | (refine DD_ ?_) | (refine DSeq.lit2 (by rfl) (by rfl) (by rfl) LT2_ (by rfl) ?_) | (refine DSeq.litC2 (by rfl) (by rfl) (by rfl) (by rfl) (by rfl) (fun hb => ?_) (fun hb => ?_) <;> (fail_if_success (with_reducible have := litT_ hb)) <;> (fail_if_success (with_reducible have := litF_ hb)) <;> (try simp only [HB_] at hb) <;> (try (exfalso; first | omega | (cases hb; done)))) | fail)
                all_goals first | (exfalso; rw [q4] at hb; cases hb; done) | (exfalso; rename_i hx; rw [q4] at hx; cases hx; done) | (exfalso; rename_i hx _; rw [q4] at hx; cases hx; done) | skip
                refine ⟨(i + 1, M2), ⟨by show i + 1 ≤ _; omega, m2, m3, m4, ?_⟩, by show _ - (i + 1) < _ - i; omega, ?_⟩
                · exact hT
                · exact (Sim.less [] (by rfl) R_ R_)
            · rw [if_neg (fun h => q2 h.2.1)] at hT
              rw [Bool.not_eq_false] at q2
              have q4 : M2.getD (0 + (l.getD ((i : Nat) : Int).toNat edZ).a.toNat) false = true := by rw [Nat.zero_add, et]; exact q2
              rw [← et] at he q1
              repeat' (first | (refine SS_ ?_) | (refine VC.drawm (id := 11) [(0, 0), (1, 0), (2, 3), (3, 7), (4, 15), (5, 0), (6, 63), (7, 127), (8, 255), (9, 255), (10, 255), (11, 1791), (12, 3839), (13, 7935), (14, 16383), (15, 32767), (16, 65535), (17, 131071), (18, 262143), (19, 524287), (20, 524287), (21, 2097151), (22, 4194303), (23, 524287), (24, 524287), (25, 25690111), (26, 59244543), (27, 126353407), (28, 268435455), (29, 536870911)] [] (by rfl) (by kernel_rfl) (by rfl) ?_) | (refine VC.litF (by rfl) LFA_ ?_) | (refine DD_ ?_) | (refine DSeq.lit2 (by rfl) (by rfl) (by rfl) LT2_ (by rfl) ?_) | (refine VC.cond (by rfl) (fun hb => ?_) (fun hb => ?_) <;> (fail_if_success (with_reducible have := litT_ hb)) <;> (fail_if_success (with_reducible have := litF_ hb)) <;> (try simp only [HB_] at hb) <;> (try (exfalso; first | omega | (cases hb; done)))) | (refine DSeq.litC2 (by rfl) (by rfl) (by rfl) (by rfl) (by rfl) (fun hb => ?_) (fun hb => ?_) <;> (fail_if_success (with_reducible have := litT_ hb)) <;> (fail_if_success (with_reducible have := litF_ hb)) <;> (try simp only [HB_] at hb) <;> (try (exfalso; first | omega | (cases hb; done)))) | fail)
              all_goals first | (exfalso; rw [q4] at hb; cases hb; done) | (exfalso; rename_i hx; rw [q4] at hx; cases hx; done) | (exfalso; rename_i hx _; rw [q4] at hx; cases hx; done) | skip
              refine ⟨(i + 1, M2), ⟨by show i + 1 ≤ _; omega, m2, m3, m4, ?_⟩, by show _ - (i + 1) < _ - i; omega, ?_⟩
              · exact hT
              · exact (Sim.less [] (by rfl) R_ R_)
          · rw [if_neg (fun h => q1 h.1)] at hT
            rw [← et] at he q1
            repeat' (first | (refine SS_ ?_) | (refine VC.drawm (id := 11) [(0, 0), (1, 0), (2, 3), (3, 7), (4, 15), (5, 0), (6, 63), (7, 127), (8, 255), (9, 255), (10, 255), (11, 1791), (12, 3839), (13, 7935), (14, 16383), (15, 32767), (16, 65535), (17, 131071), (18, 262143), (19, 524287), (20, 524287), (21, 2097151), (22, 4194303), (23, 524287), (24, 524287), (25, 25690111), (26, 59244543), (27, 126353407), (28, 268435455), (29, 536870911)] [] (by rfl) (by kernel_rfl) (by rfl) ?_) | (refine VC.litF (by rfl) LFA_ ?_) | (refine DD_ ?_) | (refine DSeq.lit2 (by rfl) (by rfl) (by rfl) LT2_ (by rfl) ?_) | fail)
            refine ⟨(i + 1, M2), ⟨by show i + 1 ≤ _; omega, m2, m3, m4, ?_⟩, by show _ - (i + 1) < _ - i; omega, ?_⟩
            · exact hT
            · exact (Sim.less [] (by rfl) R_ R_)
      · repeat' (first | (refine SS_ ?_) | (refine VC.litF (by rfl) LFA_ ?_) | fail)
        obtain rfl : i = l.length := by omega
        rw [show 2 * l.length - 2 * l.length = 0 by omega, wyJ]
        refine retC_mk ([(10, .bool false)]) ([(0, liO F), (1, .arr n 1 (fun i => .bool (M1.getD i false)))]) 2 ?_ (retQ_ok (by rfl) ([(0, liO F), (1, .arr n 1 (fun i => .bool (M1.getD i false)))]) (fun i av h => h) ⟨?_, ?_⟩)
        · exact (Sim.less [] (by rfl) R_ R_)
        · rfl
        · show _ = [(0, liO F), (1, AV.arr M1.length 1 _)]
          rw [k2]
end Go.Proofs.Ytkpidpmlehkjbaa
