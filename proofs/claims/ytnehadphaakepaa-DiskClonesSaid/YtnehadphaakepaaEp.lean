
/- dioramalaw41.same. -/
import Derived.Test.YtnehadphaakepaaEo
set_option linter.unusedSimpArgs false
set_option linter.unusedVariables false
namespace Go.Proofs.Ytnehadphaakepaa
open Go.V Go.RowKit Go.L Go.Dk
variable {n : Nat} {B : List Bs} {P : PM} {W : WM} {off : Bool} {left left2 : Int}
theorem worn_picked (h : Good n B P W left) (hw : ∀ q ∈ W, q.2 = true) : sortI (W.map (·.1)) = picked (fun i => isW W (i : Int)) n := by
  refine sortI_picked _ n h.wnd fun x => ?_
  constructor
  · intro hx
    obtain ⟨v, hv⟩ := mFind_some_of hx
    have h1 := h.win _ (mFind_mem hv)
    refine ⟨h1.1, h1.2, ?_⟩
    show isW W ((x.toNat : Nat) : Int) = true
    unfold isW
    rw [Int.toNat_of_nonneg h1.1, hv]
    exact hw _ (mFind_mem hv)
  · rintro ⟨h0, _, h2⟩
    have h2 : isW W ((x.toNat : Nat) : Int) = true := h2
    unfold isW at h2
    rw [Int.toNat_of_nonneg h0] at h2
    cases hf : mFind W x with
    | none => rw [hf] at h2; cases h2
    | some v => exact List.mem_map.2 ⟨_, mFind_mem hf, rfl⟩
theorem picked_congr {t u : Nat → Bool} : ∀ {k : Nat}, (∀ i, i < k → t i = u i) → picked t k = picked u k
  | 0, _ => rfl
  | k + 1, h => by
    rw [picked, picked, h k (Nat.lt_succ_self k), picked_congr (k := k) fun i hi => h i (by omega)]
set_option maxRecDepth 10000 in
set_option maxHeartbeats 2000000 in
theorem same_ok (h : Good n B P W left) (hw : ∀ q ∈ W, q.2 = true) : Ok Try.prog 13 [] (dR n B P W off left (secs n B P W) off left2) (.pair (.ptr 0 []) (.pair (.ptr 4 []) .nul)) (fun r h' => r = .bool true ∧ h' = dR n B P W off left (secs n B P W) off left2) := by
  have i1 := image_ok (n := n) (B := B) (P := P) (W := W) (off := off) (left := left) h.len h.b64 h.n1
  have i2 := rimage_ok (n := n) (S := secs n B P W) (off := off) (left := left2) h.n1
  rw [show (fun i => AV.str ((secs n B P W).getD i secZ).T) = (fun i => AV.str (B.getD i [])) from funext fun i => by
    by_cases hi : i < n
    · rw [secs_get hi]; rfl
    · rw [List.getD_eq_getElem?_getD, List.getElem?_eq_none (by rw [secs_len]; omega), List.getD_eq_getElem?_getD, List.getElem?_eq_none (by rw [h.len]; omega)]; rfl] at i2
  have s1 := sameT_ok false false B B (by rw [h.len]; exact h.n1) (by rw [h.len]; exact h.n1)
  rw [decide_eq_true rfl, h.len] at s1
  have q1 := pending_ok (n := n) (B := B) (W := W) (off := off) (left := left) h.pnd h.pb (by have := h.pl; omega)
  have q2 := rpending_ok (n := n) (S := secs n B P W) (off := off) (left := left2) h.n1
  rw [show picked (fun i => ((secs n B P W).getD i secZ).D) n = sortI (P.map (·.1)) from (picked_congr fun i hi => by rw [secs_get hi]; rfl).trans (pend_picked h).symm] at q2
  have q3 := worn_ok (n := n) (B := B) (P := P) (off := off) (left := left) h.wnd h.wb (by have := h.wl; omega)
  have q4 := rworn_ok (n := n) (S := secs n B P W) (off := off) (left := left2) h.n1
  rw [show picked (fun i => ((secs n B P W).getD i secZ).W) n = sortI (W.map (·.1)) from (picked_congr fun i hi => by rw [secs_get hi]; rfl).trans (worn_picked h hw).symm] at q4
  have l1 : (sortI (P.map (·.1))).length ≤ 4096 := by rw [(sortI_perm _).length_eq, List.length_map]; exact h.pl
  have l2 : (sortI (W.map (·.1))).length ≤ 4096 := by rw [(sortI_perm _).length_eq, List.length_map]; exact h.wl
  have hn := h.n1
  generalize sortI (P.map (·.1)) = L at *
  generalize sortI (W.map (·.1)) = M at *
  have s2 := sameI_ok L L l1 l1
  have s3 := sameI_ok M M l2 l2
  rw [decide_eq_true rfl] at s2 s3
  have u1 := len_ok' (n := n) (B := B) (P := P) (W := W) (off := off) (left := left)
  have u2 := rlen_ok (n := n) (S := secs n B P W) (off := off) (left := left2)
  have u3 := up_ok (n := n) (B := B) (P := P) (W := W) (off := off) (left := left)
  have u4 := rup_ok (n := n) (S := secs n B P W) (off := off) (left := left2)
  generalize secs n B P W = S at *
  refine Ok.of_vcC tt_ok Try.func13 rfl rfl (by show 2 ≤ _; decide) 6 (hlt_ok (by rfl)) fun c0 => ?_
  repeat' (first | (refine SS_ ?_) | (refine Seq.callo false [] [(6, 4)] (.sl 6 [] 1 0 n) ((6, strO n B) :: dH n B P W off left) 7 (i1) Try.func15 GOk.nil subG.nil (by rfl) (by rfl) rfl rfl rfl rfl rfl (by rfl) rfl (by rfl) (by rfl) (by rfl) (by rfl) VW_ NI_ R_ (noFrL_ok NI_) BK_ ?_) | (refine Seq.callo false [(0, 4), (1, 5)] [(4, 0), (5, 1), (7, 2)] (.sl 7 [] 1 0 n) ((7, strO n B) :: [(4, rdA n 5 off left2), (5, secsA n S)]) 8 (i2) Try.func40 GOk.nil subG.nil (by rfl) (by rfl) rfl rfl rfl rfl rfl (by rfl) rfl (by rfl) (by rfl) (by rfl) (by rfl) VW_ NI_ R_ (noFrL_ok NI_) BK_ ?_) | (refine Seq.callp true (s1) Try.func21 GOk.nil subG.nil (by rfl) (by rfl) rfl rfl rfl rfl rfl (by rfl) rfl VW_ NI_ NI_ FR_ ?_) | (refine Seq.callo false [] [] (intsT L) (dH n B P W off left) 8 (q1) Try.func22 GOk.nil subG.nil (by rfl) (by rfl) rfl rfl rfl rfl rfl (by rfl) rfl (by rfl) (by rfl) (by rfl) (by rfl) VW_ NI_ R_ (noFrL_ok NI_) BK_ ?_) | (refine Seq.callo false [(0, 4), (1, 5)] [(4, 0), (5, 1), (8, 2)] (.sl 8 [] 1 0 L.length) ((8, .arr L.length 1 (fun i => .int .i64 (L.getD i 0))) :: [(4, rdA n 5 off left2), (5, secsA n S)]) 9 (q2) Try.func42 GOk.nil subG.nil (by rfl) (by rfl) rfl rfl rfl rfl rfl (by rfl) rfl (by rfl) (by rfl) (by rfl) (by rfl) VW_ NI_ R_ (noFrL_ok NI_) BK_ ?_) | (refine Seq.callp true (s2) Try.func41 GOk.nil subG.nil (by rfl) (by rfl) rfl rfl rfl rfl rfl (by rfl) rfl VW_ NI_ NI_ FR_ ?_) | (refine Seq.callo false [] [] (intsT M) (dH n B P W off left) 9 (q3) Try.func23 GOk.nil subG.nil (by rfl) (by rfl) rfl rfl rfl rfl rfl (by rfl) rfl (by rfl) (by rfl) (by rfl) (by rfl) VW_ NI_ R_ (noFrL_ok NI_) BK_ ?_) | (refine Seq.callo false [(0, 4), (1, 5)] [(4, 0), (5, 1), (9, 2)] (.sl 9 [] 1 0 M.length) ((9, .arr M.length 1 (fun i => .int .i64 (M.getD i 0))) :: [(4, rdA n 5 off left2), (5, secsA n S)]) 10 (q4) Try.func43 GOk.nil subG.nil (by rfl) (by rfl) rfl rfl rfl rfl rfl (by rfl) rfl (by rfl) (by rfl) (by rfl) (by rfl) VW_ NI_ R_ (noFrL_ok NI_) BK_ ?_) | (refine Seq.callp true (s3) Try.func41 GOk.nil subG.nil (by rfl) (by rfl) rfl rfl rfl rfl rfl (by rfl) rfl VW_ NI_ NI_ FR_ ?_) | (refine Seq.callo false [] [] (.int .i64 n) (dH n B P W off left) 10 (u1) Try.func31 GOk.nil subG.nil (by rfl) (by rfl) rfl rfl rfl rfl rfl (by rfl) rfl (by rfl) (by rfl) (by rfl) (by rfl) VW_ NI_ R_ (noFrL_ok NI_) BK_ ?_) | (refine Seq.callo false [(0, 4), (1, 5)] [(4, 0), (5, 1)] (.int .i64 n) ([(4, rdA n 5 off left2), (5, secsA n S)]) 10 (u2) Try.func44 GOk.nil subG.nil (by rfl) (by rfl) rfl rfl rfl rfl rfl (by rfl) rfl (by rfl) (by rfl) (by rfl) (by rfl) VW_ NI_ R_ (noFrL_ok NI_) BK_ ?_) | (refine Seq.callo false [] [] (.bool (!off)) (dH n B P W off left) 10 (u3) Try.func27 GOk.nil subG.nil (by rfl) (by rfl) rfl rfl rfl rfl rfl (by rfl) rfl (by rfl) (by rfl) (by rfl) (by rfl) VW_ NI_ R_ (noFrL_ok NI_) BK_ ?_) | (refine Seq.callo false [(0, 4), (1, 5)] [(4, 0), (5, 1)] (.bool (!off)) ([(4, rdA n 5 off left2), (5, secsA n S)]) 10 (u4) Try.func45 GOk.nil subG.nil (by rfl) (by rfl) rfl rfl rfl rfl rfl (by rfl) rfl (by rfl) (by rfl) (by rfl) (by rfl) VW_ NI_ R_ (noFrL_ok NI_) BK_ ?_) | (refine Seq.eqbool tt_ok (by rfl) (by rfl) (by rfl) (by rfl) rfl ?_) | (refine Seq.lit (by rfl) (by rfl) LT2_ ?_) | (refine VC.litT (by rfl) LTR_ ?_) | (refine VC.litF (by rfl) LFA_ ?_) | (refine DD_ ?_) | (refine DSeq.lit2 (by rfl) (by rfl) (by rfl) LT2_ (by rfl) ?_) | ((refine retQ_ok (by rfl) [] nil_sub ⟨?_, rfl⟩); try rfl) | (refine Seq.litC (by rfl) (by rfl) (fun hb => ?_) (fun hb => ?_) <;> (fail_if_success (with_reducible have := litT_ hb)) <;> (fail_if_success (with_reducible have := litF_ hb)) <;> (try simp only [decide_eq_true_eq, decide_eq_false_iff_not, Bool.not_eq_true', Bool.not_eq_false', Bool.or_eq_true, Bool.or_eq_false_iff, Bool.and_eq_true, Bool.and_eq_false_iff] at hb) <;> (try (exfalso; first | omega | (cases hb; done)))) | (refine VC.cond (by rfl) (fun hb => ?_) (fun hb => ?_) <;> (fail_if_success (with_reducible have := litT_ hb)) <;> (fail_if_success (with_reducible have := litF_ hb)) <;> (try simp only [decide_eq_true_eq, decide_eq_false_iff_not, Bool.not_eq_true', Bool.not_eq_false', Bool.or_eq_true, Bool.or_eq_false_iff, Bool.and_eq_true, Bool.and_eq_false_iff] at hb) <;> (try (exfalso; first | omega | (cases hb; done)))) | (refine DSeq.litC2 (by rfl) (by rfl) (by rfl) (by rfl) (by rfl) (fun hb => ?_) (fun hb => ?_) <;> (fail_if_success (with_reducible have := litT_ hb)) <;> (fail_if_success (with_reducible have := litF_ hb)) <;> (try simp only [decide_eq_true_eq, decide_eq_false_iff_not, Bool.not_eq_true', Bool.not_eq_false', Bool.or_eq_true, Bool.or_eq_false_iff, Bool.and_eq_true, Bool.and_eq_false_iff] at hb) <;> (try (exfalso; first | omega | (cases hb; done)))))
  refine retC_mk ([(4, .bool ((!off) == (!off)))]) (dR n B P W off left S off left2) 10 ?_ (retQ_ok (by rfl) (dR n B P W off left S off left2) (fun i av h => h) ⟨?_, ?_⟩)
  · refine Sim.less [] (by rfl) ?_ ?_ <;> (repeat' (first | exact EnvLe.nil | exact HeapLe.nil | with_reducible apply EnvLe.cons | with_reducible apply HeapLe.cons | (with_reducible refine RelA.int ?_; first | (refine Keep.mk ?_; first | with_reducible rfl | omega | decide) | skip) | exact rfl | exact ⟨rfl, rfl⟩ | (with_reducible refine RelA.rsl ?_; intro i hi) | (with_reducible refine RelA.arr ?_; intro i hi) | with_reducible refine RelA.pair ?_ ?_ | with_reducible refine RelA.rptr ?_ | (with_reducible refine RelA.rslw ?_; intro i hi) | (refine RelA.rsl ?_; intro i hi) | (refine RelA.rslw ?_; intro i hi) | (refine RelA.arr ?_; intro i hi) | refine RelA.pair ?_ ?_ | refine RelA.tup ?_ | ((first | refine RelA.rslL (by first | rfl | ((try simp only [List.length_take, List.length_drop, List.length_append, List.length_cons, List.length_nil, List.length_map, List.length_range]); omega)) ?_ | refine RelA.rslT (by first | rfl | ((try simp only [List.length_take, List.length_drop, List.length_append, List.length_cons, List.length_nil, List.length_map, List.length_range]); omega)) ?_ | refine RelA.arrL (by first | rfl | ((try simp only [List.length_take, List.length_drop, List.length_append, List.length_cons, List.length_nil, List.length_map, List.length_range]); omega)) ?_); intro i hi; (try simp only [List.length_take, List.length_drop] at hi); (try simp (disch := omega) only [getD_take, getD_drop, Nat.zero_add, Int.toNat_natCast])) | exact RelA.bif_int | refine RelA.fn ?_ ?_ | exact NoId.self (by first | ((repeat' (first | exact trivial | exact rfl | refine NoFr.bif ?_ ?_ | refine NoId.bif ?_ ?_ | refine AllFr.bif ?_ ?_ | (intro i hi) | (refine ⟨?_, ?_⟩) | (intro e; cases e; done))); done) | fail))) <;> (try with_reducible refine Keep.mk ?_)
  · exact congrArg AV.bool (beq_self_eq_true _)
  · rfl
end Go.Proofs.Ytnehadphaakepaa
