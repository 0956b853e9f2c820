/- Flow: Least of the package. -/
import Derived.Test.YtkpidpmlehkjbaaFy
import Derived.Test.YtkpidpmlehkjbaaWw
import Derived.Test.YtkpidpmlehkjbaaZd
set_option linter.unusedSimpArgs false
set_option linter.unusedVariables false
namespace Go.Proofs.Ytkpidpmlehkjbaa
open Go.V Go.RowKit Go.L Go.Lx Go.Fl
set_option maxRecDepth 10000
set_option maxHeartbeats 4000000
/-- What Least gives, as memory that it has made. -/
abbrev nlV : AV := .val (.slice none 0 0)
abbrev netB (n : Nat) (l : List Ed) : AV := .pair (.int .i64 n) (.pair (edV l) (.pair (.sl 2 [] 1 0 l.length) (.pair (.rsl false (2 * l.length) 5 (arcA l)) .nul)))
abbrev ltH (n : Nat) (l : List Ed) (F : List Int) : Asc := [(1, netB n l), (2, liO F)]
theorem los_get (l : List Ed) (i : Nat) (hi : i < l.length) : (los l).getD i 0 = (l.getD i edZ).lo := by
  rw [los, List.getD_eq_getElem?_getD, List.getD_eq_getElem?_getD, List.getElem?_map, List.getElem?_eq_getElem hi]; rfl
theorem least_err (n : Int) (l : List Ed) (hl : l.length ≤ 9223372036854775807) (hg : givenE n l ≠ 0) : Ok Try.prog 14 [] [] (.pair (.int .i64 n) (.pair (edV l) .nul)) (fun r h' => r = .tup (.pair (.pair nlV (.pair nlV .nul)) (.pair nlV (.pair (.int .i64 (givenE n l)) .nul))) ∧ h' = []) := by
  have c1 := given_ok n l hl
  generalize givenE n l = e at *
  refine Ok.of_vcC tt_ok Try.func14 rfl rfl (by show 2 ≤ _; decide) 0 (hlt_ok (by rfl)) fun c0 => ?_
  repeat' (first | (refine SS_ ?_) | (refine Seq.callp false (c1) Try.func29 GOk.nil subG.nil (by rfl) (by rfl) rfl rfl rfl rfl rfl (by rfl) rfl VW_ NI_ NI_ FR_ ?_) | (refine VC.litT (by rfl) LTR_ ?_) | fail)
  exact retC_mk [(4, .ptr 0 []), (5, nlV), (6, .int .i64 e)] [(0, .pair nlV (.pair nlV .nul))] 1 (Sim.less [] (by rfl) R_ R_) (retQ_ok (by rfl) [] nil_sub ⟨rfl, rfl⟩)
theorem los_net {n : Nat} {l : List Ed} (ok : NetOk n l) : inB l (los l) := los_in fun e he => (ok.ed e he).2.2.2.2.2.1
theorem made_ok' {n : Nat} {l : List Ed} (ok : NetOk n l) : Ok Try.prog 30 [] [] (.pair (.int .i64 (n : Nat)) (.pair (edV l) .nul)) (fun r h' => r = .ptr 1 [] ∧ h' = mkH n l l.length (2 * l.length)) :=
  made_ok n l ok.l256 fun e he => (ok.ed e he).2.2.2.2.2.2.2
theorem least_clash (n : Nat) (l : List Ed) (hg : givenE n l = 0) (ok : NetOk n l) {F : List Int} {v : Nat} (hb : bln n l (fq n l) (los l) = (F, some v)) (hv : v < n) : Ok Try.prog 14 [] [] (.pair (.int .i64 (n : Nat)) (.pair (edV l) .nul)) (fun r h' => r = .tup (.pair (.pair nlV (.pair nlV .nul)) (.pair (.sl 5 [] 1 0 (blkL n l F v).length) (.pair (.int .i64 14) .nul))) ∧ h' = [(5, liO (blkL n l F v))]) := by
  have hl256 := ok.l256
  have c1 := given_ok n l (by omega)
  rw [hg] at c1
  have c2 := made_ok' ok
  have hpos : 0 < (blkL n l F v).length := by
    have : (v : Int) ∈ blkL n l F v := List.mem_map.2 ⟨v, List.mem_filter.2 ⟨List.mem_range.2 hv, by rw [blkS, decide_eq_true rfl]; rfl⟩, rfl⟩
    exact List.length_pos_of_mem this
  have c3 := balance_ok ok (los_net ok) (fq n l) (by unfold fq; have := exc_nn n l (los l); omega) _ hb
  refine Ok.of_vcC tt_ok Try.func14 rfl rfl (by show 2 ≤ _; decide) 0 (hlt_ok (by rfl)) fun c0 => ?_
  repeat' (first | (refine SS_ ?_) | (refine Seq.callp false (c1) Try.func29 GOk.nil subG.nil (by rfl) (by rfl) rfl rfl rfl rfl rfl (by rfl) rfl VW_ NI_ NI_ FR_ ?_) | (refine Seq.callo false [] [(1, 1), (2, 0), (3, 2)] (.ptr 1 []) ([(1, .pair (.int .i64 (n : Nat)) (.pair (edV l) (.pair (.sl 2 [] 1 0 l.length) (.pair (.sl 3 [] 5 0 (2 * l.length)) .nul)))), (2, .arr l.length 1 (fun i => .int .i64 (if i < l.length then (l.getD i edZ).lo else 0))), (3, .arr (2 * l.length) 5 (fun i => arcA l i))]) 4 (c2) Try.func30 GOk.nil subG.nil (by rfl) (by rfl) rfl rfl rfl rfl rfl (by rfl) rfl (by rfl) (by rfl) (by rfl) (by rfl) VW_ NI_ R_ (noFrL_ok NI_) BK_ ?_) | (refine VC.litF (by rfl) LFA_ ?_) | fail)
  refine Seq.conv (Sim.stillV (e' := [(23, .ptr 1 []), (8, .ptr 1 []), (4, .ptr 0 [])]) (h' := [(1, netB n l), (2, .arr l.length 1 (fun i => .int .i64 (if i < l.length then (l.getD i edZ).lo else 0))), (0, .pair nlV (.pair nlV .nul))]) [3] (by rfl) (by repeat' (first | exact HeapV.nil | refine HeapV.cons (by rfl) VW_ NI_ (by rfl) ?_)) (by repeat' (first | exact EnvV.nil | refine EnvV.cons (by rfl) VW_ NI_ ?_))) ?_ 
  refine Seq.conv (s' := ⟨[(23, .ptr 1 []), (8, .ptr 1 []), (4, .ptr 0 [])], (0, .pair nlV (.pair nlV .nul)) :: ltH n l (los l), [], 4⟩) (fun a w h => ?_) ?_
  · revert a w
    show ∀ a w, _ → Sim _ ⟨[(23, .ptr 1 []), (8, .ptr 1 []), (4, .ptr 0 [])], [(0, .pair nlV (.pair nlV .nul)), (1, netB n l), (2, .arr (los l).length 1 (fun i => .int .i64 ((los l).getD i 0)))], [], 4⟩ a w
    rw [show (los l).length = l.length from List.length_map ..]
    (refine Sim.less [] (by rfl) ?_ ?_ <;> (repeat' (first | (exact EnvLe.nil) | (exact HeapLe.nil) | (with_reducible apply EnvLe.cons) | (with_reducible apply HeapLe.cons) | ((with_reducible refine RelA.int ?_; first | (refine Keep.mk ?_; first | with_reducible rfl | omega | decide) | skip)) | (exact rfl) | (exact ⟨rfl, rfl⟩) | ((with_reducible refine RelA.rsl ?_; intro i hi)) | ((with_reducible refine RelA.arr ?_; intro i hi)) | (with_reducible refine RelA.pair ?_ ?_) | fail)) <;> (try with_reducible refine Keep.mk ?_))
    rw [if_pos hi, los_get l i hi]
  repeat' (first | (refine SS_ ?_) | (refine Seq.callo false [(0, 1), (1, 2)] [(1, 0), (2, 1), (5, 4)] (.sl 5 [] 1 0 (blkL n l F v).length) ((5, liO (blkL n l F v)) :: ltH n l F) 6 (c3) Try.func31 GOk.nil subG.nil (by rfl) (by rfl) rfl rfl rfl rfl rfl (by rfl) rfl (by rfl) (by rfl) (by rfl) (by rfl) VW_ NI_ R_ (noFrL_ok NI_) BK_ ?_) | (refine Seq.val (slne_ok tt_ok (by rfl) (by rfl) (by rfl) (by rfl) (by rfl) hpos) (by rfl) (by rfl) ?_) | (refine VC.litT (by rfl) LTR_ ?_) | fail)
  exact retC_mk [(4, .ptr 0 []), (5, .sl 5 [] 1 0 (blkL n l F v).length), (6, .int .i64 14)] [(5, liO (blkL n l F v)), (0, .pair nlV (.pair nlV .nul))] 6 (Sim.less [] (by rfl) R_ R_) (retQ_ok (by rfl) [(5, liO (blkL n l F v))] (subL_ok ⟨rfl, trivial⟩) ⟨rfl, rfl⟩)
theorem least_fine (n : Nat) (l : List Ed) (hg : givenE n l = 0) (ok : NetOk n l) {F G : List Int} (hb : bln n l (fq n l) (los l) = (F, none)) (hF : inB l F) (hc : circ n l F) (hG : can 1000 n l (fc l) F = G) : Ok Try.prog 14 [] [] (.pair (.int .i64 (n : Nat)) (.pair (edV l) .nul)) (fun r h' => r = .tup (.pair (.pair (.sl 2 [] 1 0 G.length) (.pair (.sl 4 [] 1 0 n) .nul)) (.pair nlV (.pair (.int .i64 0) .nul))) ∧ h' = [(2, liO G), (4, lvO n (lvs n l G).lev)]) := by
  have hl256 := ok.l256
  have c1 := given_ok n l (by omega)
  rw [hg] at c1
  have c2 := made_ok' ok
  have c3 := balance_ok ok (los_net ok) (fq n l) (by unfold fq; have := exc_nn n l (los l); omega) _ hb
  refine Ok.of_vcC tt_ok Try.func14 rfl rfl (by show 2 ≤ _; decide) 0 (hlt_ok (by rfl)) fun c0 => ?_
  repeat' (first | (refine SS_ ?_) | (refine Seq.callp false (c1) Try.func29 GOk.nil subG.nil (by rfl) (by rfl) rfl rfl rfl rfl rfl (by rfl) rfl VW_ NI_ NI_ FR_ ?_) | (refine Seq.callo false [] [(1, 1), (2, 0), (3, 2)] (.ptr 1 []) ([(1, .pair (.int .i64 (n : Nat)) (.pair (edV l) (.pair (.sl 2 [] 1 0 l.length) (.pair (.sl 3 [] 5 0 (2 * l.length)) .nul)))), (2, .arr l.length 1 (fun i => .int .i64 (if i < l.length then (l.getD i edZ).lo else 0))), (3, .arr (2 * l.length) 5 (fun i => arcA l i))]) 4 (c2) Try.func30 GOk.nil subG.nil (by rfl) (by rfl) rfl rfl rfl rfl rfl (by rfl) rfl (by rfl) (by rfl) (by rfl) (by rfl) VW_ NI_ R_ (noFrL_ok NI_) BK_ ?_) | (refine VC.litF (by rfl) LFA_ ?_) | fail)
  refine Seq.conv (Sim.stillV (e' := [(23, .ptr 1 []), (8, .ptr 1 []), (4, .ptr 0 [])]) (h' := [(1, netB n l), (2, .arr l.length 1 (fun i => .int .i64 (if i < l.length then (l.getD i edZ).lo else 0))), (0, .pair nlV (.pair nlV .nul))]) [3] (by rfl) (by repeat' (first | exact HeapV.nil | refine HeapV.cons (by rfl) VW_ NI_ (by rfl) ?_)) (by repeat' (first | exact EnvV.nil | refine EnvV.cons (by rfl) VW_ NI_ ?_))) ?_ 
  refine Seq.conv (s' := ⟨[(23, .ptr 1 []), (8, .ptr 1 []), (4, .ptr 0 [])], (0, .pair nlV (.pair nlV .nul)) :: ltH n l (los l), [], 4⟩) (fun a w h => ?_) ?_
  · revert a w
    show ∀ a w, _ → Sim _ ⟨[(23, .ptr 1 []), (8, .ptr 1 []), (4, .ptr 0 [])], [(0, .pair nlV (.pair nlV .nul)), (1, netB n l), (2, .arr (los l).length 1 (fun i => .int .i64 ((los l).getD i 0)))], [], 4⟩ a w
    rw [show (los l).length = l.length from List.length_map ..]
    (refine Sim.less [] (by rfl) ?_ ?_ <;> (repeat' (first | (exact EnvLe.nil) | (exact HeapLe.nil) | (with_reducible apply EnvLe.cons) | (with_reducible apply HeapLe.cons) | ((with_reducible refine RelA.int ?_; first | (refine Keep.mk ?_; first | with_reducible rfl | omega | decide) | skip)) | (exact rfl) | (exact ⟨rfl, rfl⟩) | ((with_reducible refine RelA.rsl ?_; intro i hi)) | ((with_reducible refine RelA.arr ?_; intro i hi)) | (with_reducible refine RelA.pair ?_ ?_) | fail)) <;> (try with_reducible refine Keep.mk ?_))
    rw [if_pos hi, los_get l i hi]
  repeat' (first | (refine SS_ ?_) | (refine Seq.callo false [(0, 1), (1, 2)] [(1, 0), (2, 1)] (nlV) (ltH n l F) 4 (c3) Try.func31 GOk.nil subG.nil (by rfl) (by rfl) rfl rfl rfl rfl rfl (by rfl) rfl (by rfl) (by rfl) (by rfl) (by rfl) VW_ NI_ R_ (noFrL_ok NI_) BK_ ?_) | (refine Seq.val (slnn_ok tt_ok (by rfl) (by rfl) (by rfl)) (by rfl) (by rfl) ?_) | (refine VC.litF (by rfl) LFA_ ?_) | fail)
  refine VC.loop (fun k : Nat × List Int => ⟨[(8, .ptr 1 []), (4, .ptr 0 [])], (0, .pair nlV (.pair nlV .nul)) :: ltH n l k.2, [], 4⟩) (fun k => inB l k.2 ∧ circ n l k.2 ∧ cost l k.2 + (l.length : Int) * 1000000 < k.1 ∧ can 1000 n l k.1 k.2 = G) (fun k => k.1) (fc l, F) ⟨hF, hc, by
    have := (ok.cost hF).2
    show cost l F + (l.length : Int) * 1000000 < ((2 * (l.length * 1000000) + 1 : Nat) : Int)
    omega, hG⟩ (Sim.less [] (by rfl) R_ R_) fun k hk => ?_
  obtain ⟨q, F⟩ := k
  obtain ⟨hF, hc, hq, hG⟩ := hk
  replace hF : inB l F := hF
  replace hc : circ n l F := hc
  replace hq : cost l F + (l.length : Int) * 1000000 < q := hq
  replace hG : can 1000 n l q F = G := hG
  have hlen := (inB_iff.1 hF).1
  obtain ⟨q, rfl⟩ : ∃ q', q = q' + 1 := ⟨q - 1, by have := (ok.cost hF).1; omega⟩
  have c4 := levels_ok ok hF
  rw [lvV, lvR] at c4
  rw [can] at hG
  refine VC.conv (s' := ⟨[(8, .ptr 1 []), (4, .ptr 0 [])], (0, .pair nlV (.pair nlV .nul)) :: ltH n l F, [], 4⟩) (fun a w h => h) ?_
  by_cases hl : (lvs n l F).last < 0
  · rw [if_pos hl, if_pos hl] at c4
    rw [if_pos hl] at hG
    subst hG
    repeat' (first | (refine SS_ ?_) | (refine Seq.callo false [(0, 1), (1, 2)] [(1, 0), (2, 1), (4, 2)] (.tup (.pair (.sl 4 [] 1 0 n) (.pair (.val (.map none)) (.pair (.int .i64 0) .nul)))) ((4, lvO n (lvs n l F).lev) :: ltH n l F) 5 (c4) Try.func32 GOk.nil subG.nil (by rfl) (by rfl) rfl rfl rfl rfl rfl (by rfl) rfl (by rfl) (by rfl) (by rfl) (by rfl) VW_ NI_ R_ (noFrL_ok NI_) BK_ ?_) | (refine VC.litT (by rfl) LTR_ ?_) | fail)
    exact retC_mk [(4, .ptr 0 []), (5, nlV), (6, .int .i64 0)] [(2, liO F), (4, lvO n (lvs n l F).lev), (0, .pair (.sl 2 [] 1 0 l.length) (.pair (.sl 4 [] 1 0 n) .nul))] 5 (Sim.less [] (by rfl) R_ R_) (retQ_ok (by rfl) [(2, liO F), (4, lvO n (lvs n l F).lev)] (subL_ok ⟨rfl, rfl, trivial⟩) ⟨by rw [hlen], rfl⟩)
  · rw [if_neg hl, if_neg hl] at c4
    rw [if_neg hl] at hG
    obtain ⟨v1, v2, v3, v4⟩ := cyc_ok ok.nodes hF hc hl
    obtain ⟨d1, d2, d3⟩ := chp_ok (m := 1000) (by omega) ok.nodes hF hc hl
    obtain ⟨r1, r2, r3⟩ := room_le (l := l) (F := F) (P := cyc n l F) (m := 1000)
    have c5 := push_ok ok hF (rndsE (netOf n l F) (n + 1)) (it (netOf n l F) (lvs n l F) n (lvs n l F).last.toNat : Nat) (it (netOf n l F) (lvs n l F) n (lvs n l F).last.toNat : Nat) 1000 (cyc n l F) (r3 0 (by omega) fun x hx => by have := (v3 x hx).2; omega) v2 (fun x hx => (v3 x hx).1) v4
    generalize it (netOf n l F) (lvs n l F) n (lvs n l F).last.toNat = v at *
    generalize rndsE (netOf n l F) (n + 1) = E at *
    rw [show pus (room l F 1000 (cyc n l F)) F (cyc n l F) = chp 1000 n l F from rfl] at c5
    generalize chp 1000 n l F = F2 at *
    generalize room l F 1000 (cyc n l F) = d at *
    repeat' (first | (refine SS_ ?_) | (refine Seq.callo false [(0, 1), (1, 2)] [(1, 0), (2, 1), (4, 3)] (.tup (.pair nlV (.pair (.mp 4) (.pair (.int .i64 (v : Nat)) .nul)))) ((4, entO l E) :: ltH n l F) 5 (c4) Try.func32 GOk.nil subG.nil (by rfl) (by rfl) rfl rfl rfl rfl rfl (by rfl) rfl (by rfl) (by rfl) (by rfl) (by rfl) VW_ NI_ R_ (noFrL_ok NI_) BK_ ?_) | (refine Seq.callo false [(0, 1), (1, 2), (2, 4)] [(1, 0), (2, 1), (4, 2)] (.int .i64 d) ([(1, netB n l), (2, liO F2), (4, entO l E)]) 5 (c5) Try.func33 GOk.nil subG.nil (by rfl) (by rfl) rfl rfl rfl rfl rfl (by rfl) rfl (by rfl) (by rfl) (by rfl) (by rfl) VW_ NI_ R_ (noFrL_ok NI_) BK_ ?_) | (refine VC.litF (by rfl) LFA_ ?_) | fail)
    refine ⟨(q, F2), ⟨d1, d2, by show cost l F2 + (l.length : Int) * 1000000 < (q : Int); omega, hG⟩, by show q < q + 1; omega, ?_⟩
    exact (Sim.less [] (by rfl) R_ R_)
abbrev certV (R : R4) : AV := .tup (.pair (.pair (lsV R.F) (.pair (lsV R.L) .nul)) (.pair (lsV R.S) (.pair (.int .i64 R.e) .nul)))
theorem least_ok (n : Int) (l : List Ed) (hl : l.length ≤ 9223372036854775807) : Ok Try.prog 14 [] [] (.pair (.int .i64 n) (.pair (edV l) .nul)) (fun r h' => r = certV (lst n l) ∧ h' = []) := by
  by_cases hg : givenE n l = 0
  · obtain ⟨h0, ok, _⟩ := given_net hg
    obtain ⟨m, rfl⟩ : ∃ m : Nat, n = m := ⟨n.toNat, by omega⟩
    rw [Int.toNat_natCast] at ok
    rw [lst, if_neg (by simp [hg]), Int.toNat_natCast, lstO]
    have hb := bln_ok ok.nodes (fq m l) (los_net ok) (by unfold fq; have := exc_nn m l (los l); omega)
    cases hbb : bln m l (fq m l) (los l) with
    | mk F r =>
      rw [hbb] at hb
      obtain ⟨b1, b2⟩ := hb
      rcases b2 with ⟨b2, b3⟩ | ⟨v, b2, b3, b4⟩
      · have b2 : r = none := b2
        subst b2
        refine Ok.still (least_fine m l hg ok hbb b1 b3 rfl) ?_
        rintro r h' ⟨rfl, rfl⟩
        refine ⟨_, ?_, rfl, rfl⟩
        refine .tup (.pair (.pair (viewT_li (by rfl) rfl fun i _ => rfl) (.pair (viewT_li (by rfl) (by rw [List.length_map, List.length_range]) fun i hi => ?_) (.rel (NoId.self (a := .nul) NI_)))) (.pair .nil (.pair (.rel (NoId.self NI_)) (.rel (NoId.self (a := .nul) NI_)))))
        show AV.int .i64 _ = .int .i64 _
        rw [List.getD_eq_getElem?_getD, List.getElem?_map, List.getElem?_range hi]; rfl
      · have b2 : r = some v := b2
        subst b2
        refine Ok.still (least_clash m l hg ok hbb b3) ?_
        rintro r h' ⟨rfl, rfl⟩
        exact ⟨_, .tup (.pair (.pair .nil (.pair .nil (.rel (NoId.self (a := .nul) NI_)))) (.pair (viewT_li (by rfl) rfl fun i _ => rfl) (.pair (.rel (NoId.self NI_)) (.rel (NoId.self (a := .nul) NI_))))), rfl, rfl⟩
  · rw [lst, if_pos hg]
    refine Ok.still (least_err n l hl hg) ?_
    rintro r h' ⟨rfl, rfl⟩
    exact ⟨_, .tup (.pair (.pair .nil (.pair .nil (.rel (NoId.self (a := .nul) NI_)))) (.pair .nil (.pair (.rel (NoId.self NI_)) (.rel (NoId.self (a := .nul) NI_))))), rfl, rfl⟩
end Go.Proofs.Ytkpidpmlehkjbaa
