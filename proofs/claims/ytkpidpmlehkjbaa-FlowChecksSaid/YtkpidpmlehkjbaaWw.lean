/- Flow: levels. -/
import Derived.Test.YtkpidpmlehkjbaaWu
import Derived.Test.YtkpidpmlehkjbaaWv
set_option linter.unusedSimpArgs false
set_option linter.unusedVariables false
namespace Go.Proofs.Ytkpidpmlehkjbaa
open Go.V Go.RowKit Go.L Go.Lx Go.Fl
set_option maxRecDepth 10000
set_option maxHeartbeats 4000000
abbrev lvO (n : Nat) (g : Nat → Int) : AV := .arr n 1 (fun i => .int .i64 (g i))
abbrev lvH (n : Nat) (l : List Ed) (F : List Int) (g : Nat → Int) (E : List (Int × Nat)) : Asc := (2, lvO n g) :: (3, entO l E) :: nH n l F
abbrev lvS1 (n : Nat) (l : List Ed) (F : List Int) (k : Nat) (g : Nat → Int) (E : List (Int × Nat)) : St := ⟨[(7, .int .i64 (k : Nat)), (6, .mp 3), (5, .sl 2 [] 1 0 n), (0, .ptr 0 [])], lvH n l F g E, [], 4⟩
abbrev lvS2 (n : Nat) (l : List Ed) (F : List Int) (k j : Nat) (s : Bf) (E : List (Int × Nat)) : St := ⟨[(24, .int .i64 (j : Nat)), (23, .int .i64 (2 * l.length : Nat)), (22, .rsl false (2 * l.length) 5 (arcA l)), (8, .int .i64 s.last), (7, .int .i64 (k : Nat)), (6, .mp 3), (5, .sl 2 [] 1 0 n), (0, .ptr 0 [])], lvH n l F s.lev E, [], 4⟩
/-- What levels gives. -/
def lvV (n : Nat) (l : List Ed) (F : List Int) : AV := if (lvs n l F).last < 0 then .tup (.pair (.sl 2 [] 1 0 n) (.pair (.val (.map none)) (.pair (.int .i64 0) .nul))) else .tup (.pair (.val (.slice none 0 0)) (.pair (.mp 3) (.pair (.int .i64 (it (netOf n l F) (lvs n l F) n (lvs n l F).last.toNat : Nat)) .nul)))
def lvR (n : Nat) (l : List Ed) (F : List Int) : Asc := if (lvs n l F).last < 0 then (2, lvO n (lvs n l F).lev) :: nH n l F else (3, entO l (rndsE (netOf n l F) (n + 1))) :: nH n l F
theorem levels_ok {n : Nat} {l : List Ed} {F : List Int} (ok : NetOk n l) (hF : inB l F) : Ok Try.prog 32 [] (nH n l F) (.pair (.ptr 0 []) .nul) (fun r h' => r = lvV n l F ∧ h' = lvR n l F) := by
  have hn := ok.nodes
  have hN := netOk F hn
  have hn64 := ok.n64
  have hl256 := ok.l256
  have hlen := (inB_iff.1 hF).1
  refine Ok.of_vcC tt_ok Try.func32 rfl rfl (by show 1 ≤ _; decide) 2 (hlt_ok (by rfl)) fun c0 => ?_
  repeat' (first | (refine SS_ ?_) | fail)
  refine VC.loop (fun k : Nat => lvS1 n l F k (rnds (netOf n l F) k).lev (rndsE (netOf n l F) k)) (fun k => k ≤ n) (fun k => n - k) 0 (by omega) (by
    (refine Sim.less [] (by rfl) ?_ ?_ <;> (repeat' (first | (exact EnvLe.nil) | (exact HeapLe.nil) | (with_reducible apply EnvLe.cons) | (with_reducible apply HeapLe.cons) | ((with_reducible refine RelA.int ?_; first | (refine Keep.mk ?_; first | with_reducible rfl | omega | decide) | skip)) | (exact rfl) | (exact ⟨rfl, rfl⟩) | ((with_reducible refine RelA.rsl ?_; intro i hi)) | ((with_reducible refine RelA.arr ?_; intro i hi)) | (with_reducible refine RelA.pair ?_ ?_) | ((refine RelA.arr ?_; intro i hi)) | fail)) <;> (try with_reducible refine Keep.mk ?_))
    exact ent_nil l _ _) fun k hk => ?_
  repeat' (first | (refine SS_ ?_) | fail)
  refine VC.loop (fun j : Nat => lvS2 n l F k j (rls (netOf n l F) (bf0 (rnds (netOf n l F) k)) j) (rlsE (netOf n l F) (bf0 (rnds (netOf n l F) k)) (rndsE (netOf n l F) k) j)) (fun j => j ≤ 2 * l.length) (fun j => 2 * l.length - j) 0 (by omega) (by
    show ∀ a w, _ → Sim _ ⟨[(24, .int .i64 ((0 : Nat) : Int)), (23, .int .i64 (2 * l.length : Nat)), (22, .rsl false (2 * l.length) 5 (arcA l)), (8, .int .i64 (-1)), (7, .int .i64 (k : Nat)), (6, .mp 3), (5, .sl 2 [] 1 0 n), (0, .ptr 0 [])], lvH n l F (rnds (netOf n l F) k).lev (rndsE (netOf n l F) k), [], 4⟩ a w
    exact (Sim.less [] (by rfl) R_ R_)) fun j hj => ?_
  have hbd := rls_bd (F := F) ok hk hj
  by_cases hjm : j < 2 * l.length
  · have har := ok.arc hF hjm
    have c1 := room_ok ok hF hjm
    have hkk : ((j : Nat) : Int).toNat = j := Int.toNat_natCast j
    have hb1 := hbd (0 + (aF l ((j : Nat) : Int).toNat).toNat) (by rw [hkk]; omega)
    have hb2 := hbd (0 + (aT l ((j : Nat) : Int).toNat).toNat) (by rw [hkk]; omega)
    rw [← hkk] at har
    have hrl : rls (netOf n l F) (bf0 (rnds (netOf n l F) k)) (j + 1) = rl (netOf n l F) j (rls (netOf n l F) (bf0 (rnds (netOf n l F) k)) j) := rfl
    have hrE : rlsE (netOf n l F) (bf0 (rnds (netOf n l F) k)) (rndsE (netOf n l F) k) (j + 1) = rlE (netOf n l F) j (rls (netOf n l F) (bf0 (rnds (netOf n l F) k)) j) (rlsE (netOf n l F) (bf0 (rnds (netOf n l F) k)) (rndsE (netOf n l F) k) j) := rfl
    generalize rls (netOf n l F) (bf0 (rnds (netOf n l F) k)) j = s at *
    generalize rlsE (netOf n l F) (bf0 (rnds (netOf n l F) k)) (rndsE (netOf n l F) k) j = E at *
    by_cases hop : 0 < aR l F j
    · by_cases hlt : s.lev (0 + (aF l ((j : Nat) : Int).toNat).toNat) + aC l ((j : Nat) : Int).toNat < s.lev (0 + (aT l ((j : Nat) : Int).toNat).toNat)
      · repeat' (first | (refine SS_ ?_) | (refine VC.drawm (id := 9) [(0, 0), (1, 0), (2, 3), (3, 7), (4, 15), (5, 31), (6, 31), (7, 95), (8, 255), (9, 511), (10, 31), (11, 1055), (12, 4095), (13, 31), (14, 31), (15, 16415), (16, 57375), (17, 122911), (18, 262143), (19, 524287)] [] (by rfl) (by kernel_rfl) (by rfl) ?_) | (refine VC.drawm (id := 10) [(0, 0), (1, 0), (2, 2), (3, 0), (4, 0), (5, 16), (6, 56), (7, 120), (8, 0), (9, 256), (10, 1016), (11, 2047)] [12] (by rfl) (by kernel_rfl) (by rfl) ?_) | (refine DSeq.callr false [] [] (.int .i64 (aR l F j)) ([]) (nH n l F) 5 (c1) Try.func47 GOk.nil subG.nil (by rfl) (fastE (by rfl)) (fastH (by rfl)) (by rfl) (by rfl) rfl rfl rfl rfl rfl (by rfl) (by rfl) (by rfl) (by rfl) (by rfl) (by repeat (first | exact trivial | refine ⟨rfl, ?_⟩)) (by rfl) (by rfl) (by rfl) VW_ NI_ R_ (noFrL_ok NI_) BK_ ?_) | (refine Seq.eff (mapUpdate_ok (K := KI) (V := arcA l) (u := j) (l := E) (k := aT l j) u_ent keyI (by rfl) (by rfl) (by rfl) (by rfl)) (by rfl) (by rfl) ?_) | (refine VC.litT (by rfl) LTR_ ?_) | (refine DD_ ?_) | (refine DSeq.lit2 (by rfl) (by rfl) (by rfl) LT2_ (by rfl) ?_) | fail)
        have hlt2 : s.lev (aF l j).toNat + aC l j < s.lev (aT l j).toNat := by rw [hkk, Nat.zero_add, Nat.zero_add] at hlt; exact hlt
        have e1 : rl (netOf n l F) j s = ⟨fun v => if v = (aT l j).toNat then s.lev (aF l j).toNat + aC l j else s.lev v, fun v => if v = (aT l j).toNat then (j : Int) else s.par v, ((aT l j).toNat : Int)⟩ := if_pos ⟨decide_eq_true hop, hlt2⟩
        have e2 : rlE (netOf n l F) j s E = mSet E ((aT l j).toNat : Int) j := if_pos ⟨decide_eq_true hop, hlt2⟩
        rw [hkk] at har
        refine ⟨j + 1, by omega, by omega, ?_⟩
        show ∀ a w, _ → Sim _ (lvS2 n l F k (j + 1) (rls (netOf n l F) (bf0 (rnds (netOf n l F) k)) (j + 1)) (rlsE (netOf n l F) (bf0 (rnds (netOf n l F) k)) (rndsE (netOf n l F) k) (j + 1))) a w
        rw [hrl, hrE, e1, e2, Int.toNat_of_nonneg har.2.2.1]
        (refine Sim.less [] (by rfl) ?_ ?_ <;> (repeat' (first | (exact EnvLe.nil) | (exact HeapLe.nil) | (with_reducible apply EnvLe.cons) | (with_reducible apply HeapLe.cons) | ((with_reducible refine RelA.int ?_; first | (refine Keep.mk ?_; first | with_reducible rfl | omega | decide) | skip)) | (exact rfl) | (exact ⟨rfl, rfl⟩) | ((with_reducible refine RelA.rsl ?_; intro i hi)) | ((with_reducible refine RelA.arr ?_; intro i hi)) | (with_reducible refine RelA.pair ?_ ?_) | (exact NoId.self (by first | ((repeat' (first | exact trivial | exact rfl | refine NoFr.bif ?_ ?_ | refine NoId.bif ?_ ?_ | refine AllFr.bif ?_ ?_ | (intro i hi) | (refine ⟨?_, ?_⟩) | (intro e; cases e; done))); done) | fail)) | fail)) <;> (try with_reducible refine Keep.mk ?_))
        · rw [hkk]
        · refine rel_bif (fun h => ?_) (fun h => ?_)
          · rw [hkk, Nat.zero_add] at h
            show (if i = (aT l j).toNat then s.lev (aF l j).toNat + aC l j else s.lev i) = _
            rw [if_pos h, hkk, Nat.zero_add]
          · rw [hkk, Nat.zero_add] at h
            show (if i = (aT l j).toNat then s.lev (aF l j).toNat + aC l j else s.lev i) = _
            rw [if_neg h]
      · repeat' (first | (refine SS_ ?_) | (refine VC.drawm (id := 9) [(0, 0), (1, 0), (2, 3), (3, 7), (4, 15), (5, 31), (6, 31), (7, 95), (8, 255), (9, 511), (10, 31), (11, 1055), (12, 4095), (13, 31), (14, 31), (15, 16415), (16, 57375), (17, 122911), (18, 262143), (19, 524287)] [] (by rfl) (by kernel_rfl) (by rfl) ?_) | (refine DSeq.callr false [] [] (.int .i64 (aR l F j)) ([]) (nH n l F) 5 (c1) Try.func47 GOk.nil subG.nil (by rfl) (fastE (by rfl)) (fastH (by rfl)) (by rfl) (by rfl) rfl rfl rfl rfl rfl (by rfl) (by rfl) (by rfl) (by rfl) (by rfl) (by repeat (first | exact trivial | refine ⟨rfl, ?_⟩)) (by rfl) (by rfl) (by rfl) VW_ NI_ R_ (noFrL_ok NI_) BK_ ?_) | (refine VC.litT (by rfl) LTR_ ?_) | (refine VC.litF (by rfl) LFA_ ?_) | (refine DD_ ?_) | (refine DSeq.lit2 (by rfl) (by rfl) (by rfl) LT2_ (by rfl) ?_) | fail)
        have hlt2 : ¬ s.lev (aF l j).toNat + aC l j < s.lev (aT l j).toNat := by rw [hkk, Nat.zero_add, Nat.zero_add] at hlt; exact hlt
        have e1 : rl (netOf n l F) j s = s := if_neg fun h => hlt2 h.2
        have e2 : rlE (netOf n l F) j s E = E := if_neg fun h => hlt2 h.2
        refine ⟨j + 1, by omega, by omega, ?_⟩
        show ∀ a w, _ → Sim _ (lvS2 n l F k (j + 1) (rls (netOf n l F) (bf0 (rnds (netOf n l F) k)) (j + 1)) (rlsE (netOf n l F) (bf0 (rnds (netOf n l F) k)) (rndsE (netOf n l F) k) (j + 1))) a w
        rw [hrl, hrE, e1, e2]
        exact (Sim.less [] (by rfl) R_ R_)
    · repeat' (first | (refine SS_ ?_) | (refine VC.drawm (id := 9) [(0, 0), (1, 0), (2, 3), (3, 7), (4, 15), (5, 31), (6, 31), (7, 95), (8, 255), (9, 511), (10, 31), (11, 1055), (12, 4095), (13, 31), (14, 31), (15, 16415), (16, 57375), (17, 122911), (18, 262143), (19, 524287)] [] (by rfl) (by kernel_rfl) (by rfl) ?_) | (refine DSeq.callr false [] [] (.int .i64 (aR l F j)) ([]) (nH n l F) 5 (c1) Try.func47 GOk.nil subG.nil (by rfl) (fastE (by rfl)) (fastH (by rfl)) (by rfl) (by rfl) rfl rfl rfl rfl rfl (by rfl) (by rfl) (by rfl) (by rfl) (by rfl) (by repeat (first | exact trivial | refine ⟨rfl, ?_⟩)) (by rfl) (by rfl) (by rfl) VW_ NI_ R_ (noFrL_ok NI_) BK_ ?_) | (refine VC.litT (by rfl) LTR_ ?_) | (refine VC.litF (by rfl) LFA_ ?_) | (refine DD_ ?_) | (refine DSeq.lit2 (by rfl) (by rfl) (by rfl) LT2_ (by rfl) ?_) | fail)
      have e1 : rl (netOf n l F) j s = s := if_neg fun h => hop (of_decide_eq_true h.1)
      have e2 : rlE (netOf n l F) j s E = E := if_neg fun h => hop (of_decide_eq_true h.1)
      refine ⟨j + 1, by omega, by omega, ?_⟩
      show ∀ a w, _ → Sim _ (lvS2 n l F k (j + 1) (rls (netOf n l F) (bf0 (rnds (netOf n l F) k)) (j + 1)) (rlsE (netOf n l F) (bf0 (rnds (netOf n l F) k)) (rndsE (netOf n l F) k) (j + 1))) a w
      rw [hrl, hrE, e1, e2]
      exact (Sim.less [] (by rfl) R_ R_)
  · obtain rfl : j = 2 * l.length := by omega
    refine VC.conv (s' := lvS2 n l F k (2 * l.length) (rnds (netOf n l F) (k + 1)) (rndsE (netOf n l F) (k + 1))) (fun a w h => h) ?_
    have hEnt := entOf_rnds (netOf n l F) (k + 1)
    by_cases hl : (rnds (netOf n l F) (k + 1)).last < 0
    · have hlv : lvs n l F = rnds (netOf n l F) (k + 1) := by
        have := rnds_still hN hl (n - k)
        rw [show k + 1 + (n - k) = n + 1 by omega] at this
        exact this
      rw [lvV, lvR, hlv, if_pos hl, if_pos hl]
      repeat' (first | (refine SS_ ?_) | (refine VC.litT (by rfl) LTR_ ?_) | (refine VC.litF (by rfl) LFA_ ?_) | fail)
      (refine retC_mk ([(2, .sl 2 [] 1 0 n), (3, .val (.map none)), (4, .int .i64 0)]) ((2, lvO n (rnds (netOf n l F) (k + 1)).lev) :: nH n l F) 4 (Sim.less [] (by rfl) R_ R_) (retQ_ok (by rfl) ((2, lvO n (rnds (netOf n l F) (k + 1)).lev) :: nH n l F) (fun i av h => h) ⟨?_, ?_⟩)) <;> rfl
    · by_cases hkn : k < n
      · repeat' (first | (refine SS_ ?_) | (refine VC.litT (by rfl) LTR_ ?_) | (refine VC.litF (by rfl) LFA_ ?_) | fail)
        refine ⟨k + 1, by omega, by omega, ?_⟩
        exact (Sim.less [] (by rfl) R_ R_)
      · obtain rfl : k = n := by omega
        obtain ⟨t, hI⟩ := inv_rnds hN k
        obtain ⟨z, v, K, z1, z2, z3, z4, _⟩ := neg_cycle hn hI hl
        rw [lvV, lvR, show lvs k l F = rnds (netOf k l F) (k + 1) from rfl, if_neg hl, if_neg hl]
        generalize rnds (netOf k l F) (k + 1) = s at *
        generalize rndsE (netOf k l F) (k + 1) = E at *
        repeat' (first | (refine SS_ ?_) | (refine VC.litF (by rfl) LFA_ ?_) | fail)
        refine VC.loop (fun i : Nat => ⟨[(80, .int .i64 (i : Nat)), (79, .int .i64 (k : Nat)), (8, .int .i64 (it (netOf k l F) s i z : Nat)), (6, .mp 3), (0, .ptr 0 [])], lvH k l F s.lev E, [], 4⟩) (fun i => i ≤ k) (fun i => k - i) 0 (by omega) (by
          show ∀ a w, _ → Sim _ ⟨[(80, .int .i64 ((0 : Nat) : Int)), (79, .int .i64 (k : Nat)), (8, .int .i64 (z : Nat)), (6, .mp 3), (0, .ptr 0 [])], lvH k l F s.lev E, [], 4⟩ a w
          rw [← z1]
          exact (Sim.less [] (by rfl) R_ R_)) fun i hi => ?_
        obtain ⟨y1, y2⟩ := z3 i
        have hf : mFind E ((it (netOf k l F) s i z : Nat) : Int) = some (s.par (it (netOf k l F) s i z)).toNat := by rw [hEnt, if_pos y2]
        obtain ⟨x1, x2, x3, _⟩ := hI.a _ y1 y2
        have hnx : ((it (netOf k l F) s (i + 1) z : Nat) : Int) = aF l (s.par (it (netOf k l F) s i z)).toNat := by
          rw [it_succ]
          show (((aF l (s.par (it (netOf k l F) s i z)).toNat).toNat : Nat) : Int) = _
          exact Int.toNat_of_nonneg (arc_in hn x1).2.1
        by_cases hik : i < k
        · repeat' (first | (refine SS_ ?_) | (refine Seq.val (lookS_ok (K := KI) (V := arcA l) (l := E) (k := ((it (netOf k l F) s i z : Nat) : Int)) tt_ok (by rfl) u_ent keyI (z_arc _ rfl) (by rfl) (by rfl) (by rfl) hf) (by rfl) (by rfl) ?_) | (refine VC.litT (by rfl) LTR_ ?_) | fail)
          refine ⟨i + 1, by omega, by omega, ?_⟩
          show ∀ a w, _ → Sim _ ⟨[(80, .int .i64 ((i + 1 : Nat) : Int)), (79, .int .i64 (k : Nat)), (8, .int .i64 (it (netOf k l F) s (i + 1) z : Nat)), (6, .mp 3), (0, .ptr 0 [])], lvH k l F s.lev E, [], 4⟩ a w
          rw [hnx]
          exact (Sim.less [] (by rfl) R_ R_)
        · obtain rfl : i = k := by omega
          repeat' (first | (refine SS_ ?_) | (refine VC.litF (by rfl) LFA_ ?_) | fail)
          rw [show s.last.toNat = z by omega]
          (refine retC_mk ([(2, .val (.slice none 0 0)), (3, .mp 3), (4, .int .i64 (it (netOf i l F) s i z : Nat))]) ((3, entO l E) :: nH i l F) 4 (Sim.less [] (by rfl) R_ R_) (retQ_ok (by rfl) ((3, entO l E) :: nH i l F) (fun i av h => h) ⟨?_, ?_⟩)) <;> rfl
end Go.Proofs.Ytkpidpmlehkjbaa
