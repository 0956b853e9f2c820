/- Journals: Numbers, Texts, Damaged, Bad, Next, Room. Journals: Damaged. -/
import Derived.Test.YtmbldnahcmkpgaaDoorAj
set_option linter.unusedSimpArgs false
set_option linter.unusedVariables false
namespace Go.Proofs.YtmbldnahcmkpgaaDoor
open Go.V Go.RowKit Go.L Go.Lx Go.Jn Go.Dk
set_option maxRecDepth 10000
set_option maxHeartbeats 4000000
variable {n : Nat} {D : Disk} {J : Jr}
theorem jnext_ok : Ok Tryd.prog 21 [] (jH n D J) (.pair (.ptr 4 []) .nul) (fun r h' => r = .int .i64 J.next ∧ h' = jH n D J) := by
  refine Ok.of_vcC tt_ok Tryd.func21 rfl rfl (by show 1 ≤ _; decide) 8 (hlt_ok (by rfl)) fun c0 => ?_
  repeat' (first | (refine SS_ ?_) | fail)
  (refine retC_mk ([(2, .int .i64 J.next)]) (jH n D J) 8 (Sim.less [] (by rfl) R_ R_) (retQ_ok (by rfl) (jH n D J) (fun i av h => h) ⟨?_, ?_⟩)) <;> rfl
theorem jroom_ok (hs : J.stop ≤ n) (hn : n ≤ 4096) : Ok Tryd.prog 22 [] (jH n D J) (.pair (.ptr 4 []) .nul) (fun r h' => r = .int .i64 ((n : Int) - J.stop) ∧ h' = jH n D J) := by
  have cl := len_ok' (n := n) (B := D.B) (P := D.P) (W := D.W) (off := D.off) (left := D.left)
  refine Ok.of_vcC tt_ok Tryd.func22 rfl rfl (by show 1 ≤ _; decide) 8 (hlt_ok (by rfl)) fun c0 => ?_
  repeat' (first | (refine SS_ ?_) | (refine DSeq.callr false [] [] (.int .i64 n) ([]) (dD n D) 8 (cl) Tryd.func32 GOk.nil subG.nil (by rfl) (fastE (by rfl)) (fastH (by rfl)) (by rfl) (by rfl) rfl rfl rfl rfl rfl (by rfl) (by rfl) (by rfl) (by rfl) (by rfl) (by repeat (first | exact trivial | refine ⟨rfl, ?_⟩)) (by rfl) (by rfl) (by rfl) VW_ NI_ R_ (noFrL_ok NI_) BK_ ?_) | (refine VC.drawm (id := 1) [(0, 0), (1, 1), (2, 3), (3, 7), (4, 15), (5, 0), (6, 32), (7, 96), (8, 224), (9, 511)] [10] (by rfl) (by kernel_rfl) (by rfl) ?_) | (refine DD_ ?_) | fail)
  (refine retC_mk ([(2, .int .i64 ((n : Int) - J.stop))]) (jH n D J) 8 (Sim.less [] (by rfl) R_ R_) (retQ_ok (by rfl) (jH n D J) (fun i av h => h) ⟨?_, ?_⟩)) <;> rfl
theorem cloneT_ok (l : List Bs) (hl : l.length ≤ 1048576) : Ok Tryd.prog 38 [] [] (.pair (txV l) .nul) (fun r h' => r = .sl 0 [] 1 0 l.length ∧ h' = [(0, txO l)]) := by
  refine Ok.of_vcC tt_ok Tryd.func38 rfl rfl (by show 1 ≤ _; decide) 0 (hlt_ok (by rfl)) fun c0 => ?_
  repeat' (first | (refine SS_ ?_) | (refine Seq.slnilx tt_ok (by rfl) (by rfl) (by rfl) (by rfl) (by rfl) (by rfl) (by rfl) (fun hz => ?_) ?_) | (refine VC.litT (by rfl) LTR_ ?_) | (refine VC.litF (by rfl) LFA_ ?_) | fail)
  · refine retC_mk [(2, .sl 0 [] 1 0 l.length)] [(0, txO l)] 1 (fun a w h => (?_ : ∀ a w, Sim _ _ a w → Sim _ _ a w) a w (Sim.ghost 2 1 (fun i => .str (l.getD i [])) (by rfl) (.inl rfl) a w h)) (retQ_ok (by rfl) [(0, txO l)] (fun i av h => h) ⟨?_, ?_⟩)
    · rw [hz]
      exact (Sim.less [] (by rfl) R_ R_)
    · rfl
    · rfl
  · (refine retC_mk ([(2, .sl 0 [] 1 0 l.length)]) ([(0, txO l)]) 1 (Sim.less [] (by rfl) R_ R_) (retQ_ok (by rfl) ([(0, txO l)]) (fun i av h => h) ⟨?_, ?_⟩)) <;> rfl
theorem jnums_ok (hl : (nums J).length ≤ 1048576) : Ok Tryd.prog 19 [] (jH n D J) (.pair (.ptr 4 []) .nul) (fun r h' => r = .sl 8 [] 1 0 (nums J).length ∧ h' = (8, liO (nums J)) :: jH n D J) := by
  have c := cloneI_ok (nums J) hl
  refine Ok.of_vcC tt_ok Tryd.func19 rfl rfl (by show 1 ≤ _; decide) 8 (hlt_ok (by rfl)) fun c0 => ?_
  repeat' (first | (refine SS_ ?_) | (refine Seq.callo true [] [(8, 0)] (.sl 8 [] 1 0 (nums J).length) ([(8, liO (nums J))]) 9 (c) Tryd.func37 GOk.nil subG.nil (by rfl) (by rfl) rfl rfl rfl rfl rfl (by rfl) rfl (by rfl) (by rfl) (by rfl) (by rfl) VW_ NI_ R_ (noFrL_ok NI_) BK_ ?_) | fail)
  (refine retC_mk ([(2, .sl 8 [] 1 0 (nums J).length)]) ((8, liO (nums J)) :: jH n D J) 9 (Sim.less [] (by rfl) R_ R_) (retQ_ok (by rfl) ((8, liO (nums J)) :: jH n D J) (fun i av h => h) ⟨?_, ?_⟩)) <;> rfl
theorem jbad_ok (hl : J.bad.length ≤ 1048576) : Ok Tryd.prog 26 [] (jH n D J) (.pair (.ptr 4 []) .nul) (fun r h' => r = .sl 8 [] 1 0 J.bad.length ∧ h' = (8, liO J.bad) :: jH n D J) := by
  have c := cloneI_ok J.bad hl
  refine Ok.of_vcC tt_ok Tryd.func26 rfl rfl (by show 1 ≤ _; decide) 8 (hlt_ok (by rfl)) fun c0 => ?_
  repeat' (first | (refine SS_ ?_) | (refine Seq.callo true [] [(8, 0)] (.sl 8 [] 1 0 J.bad.length) ([(8, liO J.bad)]) 9 (c) Tryd.func37 GOk.nil subG.nil (by rfl) (by rfl) rfl rfl rfl rfl rfl (by rfl) rfl (by rfl) (by rfl) (by rfl) (by rfl) VW_ NI_ R_ (noFrL_ok NI_) BK_ ?_) | fail)
  (refine retC_mk ([(2, .sl 8 [] 1 0 J.bad.length)]) ((8, liO J.bad) :: jH n D J) 9 (Sim.less [] (by rfl) R_ R_) (retQ_ok (by rfl) ((8, liO J.bad) :: jH n D J) (fun i av h => h) ⟨?_, ?_⟩)) <;> rfl
theorem jtexts_ok (hl : (texts J).length ≤ 1048576) : Ok Tryd.prog 20 [] (jH n D J) (.pair (.ptr 4 []) .nul) (fun r h' => r = .sl 8 [] 1 0 (texts J).length ∧ h' = (8, txO (texts J)) :: jH n D J) := by
  have c := cloneT_ok (texts J) hl
  refine Ok.of_vcC tt_ok Tryd.func20 rfl rfl (by show 1 ≤ _; decide) 8 (hlt_ok (by rfl)) fun c0 => ?_
  repeat' (first | (refine SS_ ?_) | (refine Seq.callo true [] [(8, 0)] (.sl 8 [] 1 0 (texts J).length) ([(8, txO (texts J))]) 9 (c) Tryd.func38 GOk.nil subG.nil (by rfl) (by rfl) rfl rfl rfl rfl rfl (by rfl) rfl (by rfl) (by rfl) (by rfl) (by rfl) VW_ NI_ R_ (noFrL_ok NI_) BK_ ?_) | fail)
  (refine retC_mk ([(2, .sl 8 [] 1 0 (texts J).length)]) ((8, txO (texts J)) :: jH n D J) 9 (Sim.less [] (by rfl) R_ R_) (retQ_ok (by rfl) ((8, txO (texts J)) :: jH n D J) (fun i av h => h) ⟨?_, ?_⟩)) <;> rfl
end Go.Proofs.YtmbldnahcmkpgaaDoor

namespace Go.Jn
open Go.V (mFind mSet)
def thM (l : List Int) : Go.Dk.WM := l.foldl (fun m x => mSet m x true) []
theorem thM_snoc (l : List Int) (x : Int) : thM (l ++ [x]) = mSet (thM l) x true := by unfold thM; rw [List.foldl_append]; rfl
theorem mFind_fold : ∀ (l : List Int) (m : Go.Dk.WM) (x : Int), mFind (l.foldl (fun m x => mSet m x true) m) x = if x ∈ l then some true else mFind m x
  | [], m, x => by rw [if_neg (by simp)]; rfl
  | y :: r, m, x => by
    show mFind (r.foldl _ (mSet m y true)) x = _
    rw [mFind_fold r, Go.Dk.mFind_mSet]
    by_cases h1 : x ∈ r
    · rw [if_pos h1, if_pos (List.mem_cons_of_mem _ h1)]
    · rw [if_neg h1]
      by_cases h2 : y = x
      · rw [if_pos h2, if_pos (by rw [h2]; exact List.mem_cons_self)]
      · rw [if_neg h2, if_neg]
        rintro h3
        rcases List.mem_cons.1 h3 with h4 | h4
        · exact h2 h4.symm
        · exact h1 h4
theorem mFind_thM (l : List Int) (x : Int) : mFind (thM l) x = if l.contains x = true then some true else none := by
  unfold thM
  rw [mFind_fold]
  by_cases h : x ∈ l
  · rw [if_pos h, if_pos (List.contains_iff_mem.2 h)]
  · rw [if_neg h, if_neg (fun h2 => h (List.contains_iff_mem.1 h2))]; rfl
theorem isW_thM (l : List Int) (x : Int) : Go.Dk.isW (thM l) x = l.contains x := by
  unfold Go.Dk.isW
  rw [mFind_thM]
  cases l.contains x <;> rfl
/-- The lost numbers up to k. -/
def dmgK (l : List Int) (k : Nat) : List Int := ((List.range k).map fun i : Nat => ((i : Int) + 1)).filter fun n => !l.contains n
theorem dmgK_succ (l : List Int) (k : Nat) : dmgK l (k + 1) = if l.contains ((k : Int) + 1) = true then dmgK l k else dmgK l k ++ [(k : Int) + 1] := by
  unfold dmgK
  rw [List.range_succ, List.map_append, List.filter_append]
  show _ ++ List.filter _ [(k : Int) + 1] = _
  cases h : l.contains ((k : Int) + 1) with
  | true => rw [List.filter_cons_of_neg (by simpa using h)]; simp
  | false => rw [List.filter_cons_of_pos (by simpa using h)]; simp
theorem damaged_eq (J : Jr) : damaged J = dmgK (nums J) (J.next - 1).toNat := rfl
theorem dmgK_len (l : List Int) (k : Nat) : (dmgK l k).length ≤ k := by
  unfold dmgK
  refine Nat.le_trans (List.length_filter_le _ _) ?_
  simp
end Go.Jn
namespace Go.Proofs.YtmbldnahcmkpgaaDoor
open Go.V Go.RowKit Go.L Go.Lx Go.Jn Go.Dk
set_option maxRecDepth 10000
set_option maxHeartbeats 4000000
variable {n : Nat} {D : Disk} {J : Jr}
theorem jdamaged_ok (hl : (nums J).length ≤ 1048576) (hx1 : 1 ≤ J.next) (hx2 : J.next ≤ 4097) : Ok Tryd.prog 25 [] (jH n D J) (.pair (.ptr 4 []) .nul) (fun r h' => r = .sl 8 [] 1 0 (damaged J).length ∧ h' = (8, liO (damaged J)) :: jH n D J) := by
  rw [damaged_eq]
  refine Ok.of_vcC tt_ok Tryd.func25 rfl rfl (by show 1 ≤ _; decide) 8 (hlt_ok (by rfl)) fun c0 => ?_
  repeat' (first | (refine SS_ ?_) | fail)
  refine VC.loop (fun k : Nat => ⟨[(14, .int .i64 (k : Nat)), (13, .int .i64 ((nums J).length : Nat)), (12, .sl 5 [] 1 0 (nums J).length), (3, .mp 8), (0, .ptr 4 [])], (8, wornA (thM ((nums J).take k))) :: jH n D J, [], 9⟩) (fun k => k ≤ (nums J).length) (fun k => (nums J).length - k) 0 (by omega) (by
    (refine Sim.less [] (by rfl) ?_ ?_ <;> (repeat' (first | (exact EnvLe.nil) | (exact HeapLe.nil) | (with_reducible apply EnvLe.cons) | (with_reducible apply HeapLe.cons) | ((with_reducible refine RelA.int ?_; first | (refine Keep.mk ?_; first | with_reducible rfl | omega | decide) | skip)) | (exact rfl) | (exact ⟨rfl, rfl⟩) | ((with_reducible refine RelA.arr ?_; intro i hi)) | (with_reducible refine RelA.pair ?_ ?_) | ((refine RelA.arr ?_; intro i hi)) | (exact NoId.self (by first | ((repeat' (first | exact trivial | exact rfl | refine NoFr.bif ?_ ?_ | refine NoId.bif ?_ ?_ | refine AllFr.bif ?_ ?_ | (intro i hi) | (refine ⟨?_, ?_⟩) | (intro e; cases e; done))); done) | fail)) | fail)) <;> (try with_reducible refine Keep.mk ?_))
    exact ⟨_, _, rfl, fun i hi => absurd hi (Nat.not_lt_zero _)⟩) fun k hk => ?_
  by_cases hkl : k < (nums J).length
  · have hts : (nums J).take (k + 1) = (nums J).take k ++ [(nums J).getD k 0] := take_snoc hkl
    have hT : thM ((nums J).take (k + 1)) = mSet (thM ((nums J).take k)) ((nums J).getD (0 + ((k : Int)).toNat) 0) true := by rw [hts, thM_snoc, Nat.zero_add, Int.toNat_natCast]
    generalize hM : thM ((nums J).take k) = M at *
    repeat' (first | (refine SS_ ?_) | (refine Seq.eff (mapUpdate_ok (K := KI) (V := VB) (u := true) (l := M) (k := (nums J).getD (0 + ((k : Int)).toNat) 0) u_worn keyI (by rfl) (by rfl) (by rfl) (by rfl)) (by rfl) (by rfl) ?_) | (refine VC.litT (by rfl) LTR_ ?_) | fail)
    refine ⟨k + 1, by omega, by omega, ?_⟩
    rw [hT]
    exact (Sim.less [] (by rfl) R_ R_)
  · obtain rfl : k = (nums J).length := by omega
    rw [List.take_length]
    generalize hM : thM (nums J) = M at *
    repeat' (first | (refine SS_ ?_) | (refine VC.litF (by rfl) LFA_ ?_) | fail)
    refine VC.conv (Sim.ghost 6 1 (fun _ => .nul) (by rfl) (.inl rfl)) ?_
    refine VC.loop (fun k : Nat => ⟨[(7, .int .i64 ((k + 1 : Nat) : Int)), (6, .sl 9 [] 1 0 (dmgK (nums J) k).length), (3, .mp 8), (0, .ptr 4 [])], (9, liO (dmgK (nums J) k)) :: (8, wornA M) :: jH n D J, [], 10⟩) (fun k => k ≤ (J.next - 1).toNat) (fun k => (J.next - 1).toNat - k) 0 (by omega) (by
      (refine Sim.less [] (by rfl) ?_ ?_ <;> (repeat' (first | (exact EnvLe.nil) | (exact HeapLe.nil) | (with_reducible apply EnvLe.cons) | (with_reducible apply HeapLe.cons) | ((with_reducible refine RelA.int ?_; first | (refine Keep.mk ?_; first | with_reducible rfl | omega | decide) | skip)) | (exact rfl) | (exact ⟨rfl, rfl⟩) | ((with_reducible refine RelA.arr ?_; intro i hi)) | (with_reducible refine RelA.pair ?_ ?_) | ((refine RelA.arr ?_; intro i hi)) | (exact NoId.self (by first | ((repeat' (first | exact trivial | exact rfl | refine NoFr.bif ?_ ?_ | refine NoId.bif ?_ ?_ | refine AllFr.bif ?_ ?_ | (intro i hi) | (refine ⟨?_, ?_⟩) | (intro e; cases e; done))); done) | fail)) | fail)) <;> (try with_reducible refine Keep.mk ?_))
      exact absurd (by assumption) (Nat.not_lt_zero _)) fun k hk => ?_
    by_cases hkn : k < (J.next - 1).toNat
    · have hs := dmgK_succ (nums J) k
      have hdl := dmgK_len (nums J) k
      have hW := isW_thM (nums J) ((k : Int) + 1)
      rw [hM] at hW
      by_cases hc : (nums J).contains ((k : Int) + 1) = true
      · rw [hc] at hW
        rw [if_pos hc] at hs
        repeat' (first | (refine SS_ ?_) | (refine Seq.val (lookW_ok (W := M) (i := ((k + 1 : Nat) : Int)) (q := true) (by rfl) (by rfl) (by rfl) hW) (by rfl) (by rfl) ?_) | (refine VC.litT (by rfl) LTR_ ?_) | (refine VC.litF (by rfl) LFA_ ?_) | fail)
        refine ⟨k + 1, by omega, by omega, ?_⟩
        rw [hs]
        exact (Sim.less [] (by rfl) R_ R_)
      · have hc : (nums J).contains ((k : Int) + 1) = false := by simpa using hc
        rw [hc] at hW
        rw [if_neg (by rw [hc]; decide)] at hs
        repeat' (first | (refine SS_ ?_) | (refine Seq.val (lookW_ok (W := M) (i := ((k + 1 : Nat) : Int)) (q := false) (by rfl) (by rfl) (by rfl) hW) (by rfl) (by rfl) ?_) | (refine VC.litT (by rfl) LTR_ ?_) | fail)
        refine ⟨k + 1, by omega, by omega, ?_⟩
        unfold liO
        rw [hs, List.length_append, List.length_singleton]
        (refine Sim.less [(9, 11)] (by rfl) ?_ ?_ <;> (repeat' (first | (exact EnvLe.nil) | (exact HeapLe.nil) | (with_reducible apply EnvLe.cons) | (with_reducible apply HeapLe.cons) | ((with_reducible refine RelA.int ?_; first | (refine Keep.mk ?_; first | with_reducible rfl | omega | decide) | skip)) | (exact rfl) | (exact ⟨rfl, rfl⟩) | ((with_reducible refine RelA.arr ?_; intro i hi)) | (with_reducible refine RelA.pair ?_ ?_) | ((refine RelA.arr ?_; intro i hi)) | (exact NoId.self (by first | ((repeat' (first | exact trivial | exact rfl | refine NoFr.bif ?_ ?_ | refine NoId.bif ?_ ?_ | refine AllFr.bif ?_ ?_ | (intro i hi) | (refine ⟨?_, ?_⟩) | (intro e; cases e; done))); done) | fail)) | fail)) <;> (try with_reducible refine Keep.mk ?_))
        exact rel_snocG (G := AV.int .i64) (fun e => NI_) (by assumption)
    · obtain rfl : k = (J.next - 1).toNat := by omega
      repeat' (first | (refine SS_ ?_) | (refine VC.litF (by rfl) LFA_ ?_) | fail)
      refine retC_conv' (s' := ⟨[(2, .sl 8 [] 1 0 (dmgK (nums J) (J.next - 1).toNat).length)], (8, liO (dmgK (nums J) (J.next - 1).toNat)) :: jH n D J, [], 12⟩) (Sim.less [(8, 9)] (by rfl) R_ R_) ?_
      (refine retC_mk ([(2, .sl 8 [] 1 0 (dmgK (nums J) (J.next - 1).toNat).length)]) ((8, liO (dmgK (nums J) (J.next - 1).toNat)) :: jH n D J) 12 (Sim.less [] (by rfl) R_ R_) (retQ_ok (by rfl) ((8, liO (dmgK (nums J) (J.next - 1).toNat)) :: jH n D J) (fun i av h => h) ⟨?_, ?_⟩)) <;> rfl
end Go.Proofs.YtmbldnahcmkpgaaDoor
