/- dioramalaw25.ReleaseSpent walks. -/
import Derived.Test.YtdbebdjnpckfdaaDoorKz
import Derived.Test.YtdbebdjnpckfdaaDoorMk
set_option linter.unusedSimpArgs false
set_option linter.unusedVariables false
namespace Go.V
open Go.RowKit Go.L
theorem addw_ok {P : Program} {t yt ty : TypeId} {g e h : Asc} {x y : Operand} {d : Option Tmp} {pos : String} {af : Array Edge} {gd : Option (Nat × Bool)} {k : IntKind} {n q : Int} (hx : ev g e x = some (.int k n)) (hy : ev g e y = some (.int k q)) (r : Int) (hr : k.wrap (n + q) = r) : OpOk P ⟨d, .binOp .add t x y yt, ty, pos, af, gd⟩ g e h (some (.int k r)) h [] := by
  refine OpOk.val fun c a he hh hc => ?_
  have h1 := rep_int (ev_rep he hx)
  have h2 := rep_int (ev_rep he hy)
  exact ⟨_, by simp [execOp, h1, h2, eqGuard, binOp]; rfl, by rw [← hr]; simp [Rep]⟩
end Go.V
namespace Go.Rl
open Go.V Go.Lx Go.Rt Go.Bg
theorem madeTo_p {l S : List Int} : ∀ n, ∀ r ∈ madeTo l S n, 0 ≤ r.p ∧ r.p < 40
  | 0, r, h => by cases h
  | n + 1, r, h => by
    rw [madeTo] at h
    split at h
    · rcases List.mem_append.1 h with h | h
      · exact madeTo_p n r h
      · rw [List.mem_singleton.1 h]
        show 0 ≤ atI l (5 + (n : Int)) 1048576 % 40 ∧ atI l (5 + (n : Int)) 1048576 % 40 < 40
        omega
    · exact madeTo_p n r h
theorem pers_mem {S : List Int} {R : List Row} (h : okE ⟨S, R⟩ = 0) (x : Int) : x ∈ pers ⟨S, R⟩ ↔ ∃ k, k < R.length ∧ (R.getD k rowZ).p = x := by
  unfold pers
  rw [if_pos h]
  show x ∈ srt (ps R) ↔ _
  rw [show x ∈ srt (ps R) ↔ x ∈ ps R from (List.mergeSort_perm _ _).mem_iff, mem_getD (d := 0), ps_len]
  exact exists_congr fun k => and_congr_right fun _ => by rw [ps_get]
theorem pers_nodup {S : List Int} {R : List Row} (h : okE ⟨S, R⟩ = 0) : (pers ⟨S, R⟩).Nodup := by
  unfold pers
  rw [if_pos h]
  exact ((List.mergeSort_perm _ _).nodup_iff).2 (okE_zero.1 h).2.2.2.2
theorem pers_len {S : List Int} {R : List Row} (h : okE ⟨S, R⟩ = 0) : (pers ⟨S, R⟩).length = R.length := by
  unfold pers
  rw [if_pos h, srt_len, ps_len]
theorem SV.mono {n j : Nat} {l : List Int} {b : Bk} {s : List Int} (h : SV n l b s j) : SV n l b s (j + 1) :=
  ⟨h.na, h.no, h.R, h.sl, h.L, h.u, h.le, fun o ho => by
    obtain ⟨v, h1, h2⟩ := h.ou o ho
    exact ⟨v, h1, by omega⟩⟩
end Go.Rl
namespace Go.Proofs.YtdbebdjnpckfdaaDoor
open Go.V Go.RowKit Go.U Go.L Go.Lx Go.Dw Go.Rl Go.Rt Go.Bg
set_option maxRecDepth 10000
set_option maxHeartbeats 4000000
theorem low_s {i v : Nat} (hi : i < 6) (hv : v < 5) : drw [115] [11, (i : Int), 0, (v : Int)] 0 < 280925220896768 :=
  low_all (seed := [115]) (by decide) (I := 6) (F := 1) (V := 5) k_s (by decide) (by decide) (by decide) hi (f := 0) (by decide) hv
theorem rask_any (b : Bk) (hb : BOk b) (S : List Int) (R : List Row) (seed : List UInt8) (hs : seed.length ≤ 32) (n f k : Int) (hn : 0 ≤ n ∧ n ≤ 1048576) (hk : checkE ⟨S, R⟩ f k = 0) (hlow : ∀ v : Nat, (v : Int) < S.getD f.toNat 0 → drw seed [11, n, f, (v : Int)] 0 < 280925220896768) :
    ∃ x y z C, Ok Tryd.prog 12 gK (bH b) (.pair (tabV S R) (.pair (.ptr 0 []) (.pair (.str seed) (.pair (.int .i64 n) (.pair (.int .i64 f) (.pair (.int .i64 k) .nul)))))) (fun r h' => r = .tup (.pair (relV x y z C) (.pair (.int .i64 (askE b (pers ⟨S, R⟩) ⟨k, 1⟩)) .nul)) ∧ h' = nbH (askB b (pers ⟨S, R⟩) ⟨k, 1⟩)) := by
  by_cases hE : askE b (pers ⟨S, R⟩) ⟨k, 1⟩ = 0
  · have := rask_fine b hb S R seed hs n f k hn hk hE hlow
    rw [hE]
    exact ⟨_, _, _, _, this⟩
  · have := rask_err b hb S R seed hs n f k hn hk _ rfl hE
    rw [show askB b (pers ⟨S, R⟩) ⟨k, 1⟩ = b from if_neg hE]
    refine ⟨0, 0, 0, [], this.imp fun r h' h => ?_⟩
    obtain ⟨rfl, rfl⟩ := h
    exact ⟨_, Imp.tup (Imp.pair (Imp.pair (Imp.refl _) (Imp.pair (Imp.refl _) (Imp.pair (Imp.refl _) (Imp.pair Imp.nil (Imp.refl _))))) (Imp.refl _)), rfl, rfl⟩
theorem wrap_r (x : Int) : I64 (IntKind.i64.wrap x) := by
  unfold I64
  simp only [IntKind.wrap, IntKind.signed, IntKind.bits]
  constructor <;> (simp; omega)
theorem spent_at {n j : Nat} {l : List Int} {b : Bk} {s : List Int} (hb : BOk b) (h : SV n l b s j) {q : Nat} (hq : q < 40) : Ok Tryd.prog 16 [] (bH b) (.pair (.ptr 0 []) (.pair (.int .i64 (q : Nat)) .nul)) (fun v h' => v = .tup (.pair (ratA (b.A.getD q accZ).U) (.pair (.int .i64 0) .nul)) ∧ h' = bH b) := by
  have := spent_ok b hb (q : Nat)
  have hna := h.na
  unfold usV usE at this
  rw [if_neg (by omega), if_neg (by omega), Int.toNat_natCast] at this
  exact this
theorem cmpS_ok {n j : Nat} {l : List Int} {b : Bk} {s : List Int} (h : SV n l b s j) {q q' : Nat} (hq : q < 40) (e : q' = q) : Ok Tryd.prog 17 [] [] (.pair (ratA (b.A.getD q accZ).U) (.pair (ratA ⟨s.getD q' 0, 1⟩) .nul)) (fun v h' => v = .int .i64 0 ∧ h' = []) := by
  subst e
  have u0 := h.u q' hq
  obtain ⟨pp, w1, w2, w3⟩ := lmP_get (l := l) hq
  have hle := h.le q' hq
  rw [w3] at hle
  have hle : s.getD q' 0 ≤ pp := hle
  have v1 := vk_one (p := s.getD q' 0) ⟨u0.n, by omega⟩
  have := cmp_ok _ _ (valid_r64 u0.c) (valid_r64 v1.c) u0.c v1.c
  rw [cmp_val (by decide) u0 v1, if_pos rfl] at this
  exact this
theorem cmpL_ok {n j : Nat} {l : List Int} {b : Bk} {s : List Int} (h : SV n l b s j) {q q' : Nat} (hq : q < 40) (e : q' = q) : ∃ Y : Int, Y ≤ 0 ∧ Ok Tryd.prog 17 [] [] (.pair (ratA (b.A.getD q accZ).U) (.pair (ratA ((lmP l 40).getD q' rz)) .nul)) (fun v h' => v = .int .i64 Y ∧ h' = []) := by
  subst e
  have u0 := h.u q' hq
  obtain ⟨pp, w1, w2, w3⟩ := lmP_get (l := l) hq
  have hle := h.le q' hq
  rw [w3] at hle ⊢
  have hle : s.getD q' 0 ≤ pp := hle
  have v1 := vk_one (p := pp) (by omega)
  have := cmp_ok _ _ (valid_r64 u0.c) (valid_r64 v1.c) u0.c v1.c
  rw [cmp_val (by decide) u0 v1] at this
  refine ⟨_, ?_, this⟩
  split
  · decide
  · rw [if_pos (by omega)]; decide
theorem lawSpent_ok (l : List Int) (hl : IOk l) (m : List Int) (hm : IOk m) (cost : Int) (hco : I64 cost) (many : Int) (hmn : I64 many) : Ok Tryd.prog 4 gK [] (.pair (liV l) (.pair (liV m) (.pair (.int .i64 cost) (.pair (.int .i64 many) .nul)))) (fun r h' => r = .bool true ∧ h' = []) := by
  have c1 := made_ok l hl
  have hok := made_fine l
  have hR10 := made_len l
  have hS3 := madeS_bd l
  have hSv := madeS_val (l := l) (i := 0) (by omega)
  have hMp : ∀ r ∈ (made l).R, 0 ≤ r.p ∧ r.p < 40 := fun r hr => madeTo_p (l := l) (S := madeS l) _ r hr
  have hMS : (made l).S = madeS l := rfl
  rw [← hMS] at hS3 hSv
  clear hMS
  generalize made l = t at *
  obtain ⟨S, R⟩ := t
  change R.length ≤ 10 at hR10
  change 1 ≤ S.length ∧ S.length ≤ 3 at hS3
  change 1 ≤ S.getD 0 0 ∧ S.getD 0 0 ≤ 5 at hSv
  change ∀ r ∈ R, 0 ≤ r.p ∧ r.p < 40 at hMp
  change Ok _ _ _ _ _ (fun r h' => r = tabV S R ∧ h' = []) at c1
  have hRp : ∀ k, k < R.length → 0 ≤ (R.getD k rowZ).p ∧ (R.getD k rowZ).p < 40 := fun k hk => hMp _ (getD_mem hk)
  have hnd : (ps R).Nodup := (okE_zero.1 hok).2.2.2.2
  have c2 := own_ok S R (by omega)
  have c3 := lAround_ok many 6 hmn
  have b3 := around_lt many 6 (by decide)
  have c5 := limits_ok m hm
  have c6 := new_yes (lmP m 40) (lmW m 40) (lmO m 3) (cost_r64 fun r hr => by
    obtain ⟨p, h1, h2, rfl⟩ := lm_P hr
    exact cost_one (by omega)) (cost_r64 fun r hr => by
    obtain ⟨p, h1, h2, rfl⟩ := lm_O hr
    exact cost_one (by omega)) (lm_new m)
  have hbok : BOk (lmB m) := new_bok (lm_new m)
  have hsv0 := sv_new R.length m
  generalize aroundI many 6 = mm at *
  have h0 : ∀ q, (List.replicate 40 (0 : Int)).getD q 0 = 0 := fun q => by
    rw [List.getD_eq_getElem?_getD, List.getElem?_replicate]; split <;> rfl
  refine Ok.of_vcC tt_ok Tryd.func4 rfl rfl (by show 4 ≤ _; decide) 0 (hlt_ok (by rfl)) fun c0 => ?_
  repeat' (first | (refine SS_ ?_) | (refine Seq.callp false (c1) Tryd.func6 gK_ok subG.nil (by rfl) (by rfl) rfl rfl rfl rfl rfl (by rfl) rfl VW_ NI_ NI_ FR_ ?_) | (refine Seq.callp false (c2) Tryd.func5 gK_ok subG.nil (by rfl) (by rfl) rfl rfl rfl rfl rfl (by rfl) rfl VW_ NI_ NI_ FR_ ?_) | (refine Seq.callo false [] [(1, 0), (2, 1), (3, 2), (4, 3), (5, 4)] (.tup (.pair (.ptr 1 []) (.pair (.int .i64 0) .nul))) ([(1, bkI 2 3 4 5 (lmB m)), (2, acsO (lmB m).A), (3, acsO (lmB m).O), (4, liO (lmB m).W), (5, boO (lmB m).R)]) 6 (c6) Tryd.func10 gK_ok subG.nil (by rfl) (by rfl) rfl rfl rfl rfl rfl (by rfl) rfl (by rfl) (by rfl) (by rfl) (by rfl) VW_ NI_ R_ (noFrL_ok NI_) BK_ ?_) | (refine Seq.callq false (c5) Tryd.func9 GG_ SG_ (by rfl) rfl rfl rfl (by rfl) rfl VW_ NI_ NI_ FR_ ?_) | (refine VC.litF (by rfl) LFA_ ?_) | fail)
  refine VC.loop (fun x : Nat × (Bk × List Int) => ⟨[(16, .int .i64 (x.1 : Nat)), (15, .sl 6 [] 1 0 40), (13, .ptr 1 []), (10, rlV (lmP m 40)), (9, .ptr 0 []), (2, .int .i64 cost), (3, .int .i64 many)], [(0, tabV S R), (1, bkI 2 3 4 5 x.2.1), (2, acsO x.2.1.A), (3, acsO x.2.1.O), (4, liO x.2.1.W), (5, boO x.2.1.R), (6, .arr 40 1 (fun q => .int .i64 (x.2.2.getD q 0)))], gK, 7⟩) (fun x => x.1 ≤ (1 + mm).toNat ∧ BOk x.2.1 ∧ SV R.length m x.2.1 x.2.2 x.1) (fun x => (1 + mm).toNat - x.1) (0, (lmB m, List.replicate 40 0)) ⟨Nat.zero_le _, hbok, hsv0⟩ (by
    (refine Sim.less [] (by rfl) ?_ ?_ <;> (repeat' (first | (exact EnvLe.nil) | (exact HeapLe.nil) | (with_reducible apply EnvLe.cons) | (with_reducible apply HeapLe.cons) | ((with_reducible refine RelA.int ?_; first | (refine Keep.mk ?_; first | with_reducible rfl | omega | decide) | skip)) | (exact rfl) | (exact ⟨rfl, rfl⟩) | ((with_reducible refine RelA.rsl ?_; intro i hi)) | ((with_reducible refine RelA.arr ?_; intro i hi)) | (with_reducible refine RelA.pair ?_ ?_) | ((refine RelA.arr ?_; intro i hi)) | fail)) <;> (try with_reducible refine Keep.mk ?_))
    rw [h0]; exact rfl) fun x hx => ?_
  obtain ⟨i, b, s⟩ := x
  obtain ⟨hi, hb, hsv⟩ := hx
  change i ≤ (1 + mm).toNat at hi
  change BOk b at hb
  change SV R.length m b s i at hsv
  show VC _ _ _ ⟨[(16, .int .i64 (i : Nat)), (15, .sl 6 [] 1 0 40), (13, .ptr 1 []), (10, rlV (lmP m 40)), (9, .ptr 0 []), (2, .int .i64 cost), (3, .int .i64 many)], [(0, tabV S R), (1, bkI 2 3 4 5 b), (2, acsO b.A), (3, acsO b.O), (4, liO b.W), (5, boO b.R), (6, .arr 40 1 (fun q => .int .i64 (s.getD q 0)))], gK, 7⟩
  by_cases hil : i < (1 + mm).toNat
  · have k2 := lAround_ok (IntKind.i64.wrap (cost + (i : Int))) 12 (wrap_r _)
    have bk2 := around_lt (IntKind.i64.wrap (cost + (i : Int))) 12 (by decide)
    generalize aroundI (IntKind.i64.wrap (cost + (i : Int))) 12 = co at *
    have hck := check_fine hok (f := 0) (k := 1 + co) (by omega) (by omega)
    obtain ⟨x1, x2, x3, C, d1⟩ := rask_any b hb S R [115] (by decide) i 0 (1 + co) (by omega) hck (fun v hv => by
      have hv : (v : Int) < S.getD 0 0 := hv
      exact low_s (by omega) (by omega))
    have hPm := fun x => pers_mem hok x
    have hPn := pers_nodup hok
    have hPl := pers_len hok
    have hbb2 : BOk (askB b (pers ⟨S, R⟩) ⟨1 + co, 1⟩) := ask_bok hb (by omega)
    have hb2 : askE b (pers ⟨S, R⟩) ⟨1 + co, 1⟩ ≠ 0 → askB b (pers ⟨S, R⟩) ⟨1 + co, 1⟩ = b := fun h => if_neg h
    have hrg := fun q => rowS_get (c := 1 + co) hsv.sl hnd hRp q
    have hE : (askE b (pers ⟨S, R⟩) ⟨1 + co, 1⟩ = 0 ∧ R.length ≠ 0 ∧ SV R.length m (askB b (pers ⟨S, R⟩) ⟨1 + co, 1⟩) (rowS R (1 + co) s R.length) (i + 1)) ∨ (askE b (pers ⟨S, R⟩) ⟨1 + co, 1⟩ = 22 ∧ R.length ≠ 0) ∨ (askE b (pers ⟨S, R⟩) ⟨1 + co, 1⟩ = 1 ∧ R.length = 0) := by
      by_cases hR0 : R.length = 0
      · exact .inr (.inr ⟨ask_bad (.inl (List.length_eq_zero_iff.1 (by rw [hPl]; exact hR0))), hR0⟩)
      · rcases sv_step hsv (by omega) hPn (fun p hp => by
          obtain ⟨k, hk, rfl⟩ := (hPm p).1 hp
          exact hRp k hk) hPl (by omega) (c := 1 + co) (by omega) (s' := rowS R (1 + co) s R.length) (by rw [rowS_len]; exact hsv.sl) (fun q hq => by
          rw [hrg q R.length (Nat.le_refl _)]
          congr 1
          by_cases hx : ∃ k, k < R.length ∧ (R.getD k rowZ).p = (q : Int)
          · rw [if_pos hx, if_pos ((hPm q).2 hx)]
          · rw [if_neg hx, if_neg (fun h => hx ((hPm q).1 h))]) with ⟨h1, h2⟩ | h1
        · exact .inl ⟨h1, hR0, h2⟩
        · exact .inr (.inl ⟨h1, hR0⟩)
    generalize askE b (pers ⟨S, R⟩) ⟨1 + co, 1⟩ = E at *
    generalize askB b (pers ⟨S, R⟩) ⟨1 + co, 1⟩ = b2 at *
    clear hPm hPn hPl c1 c2 c5 c6 hMp
    have hbd : ∀ k q, k ≤ R.length → q < 40 → 0 ≤ (rowS R (1 + co) s k).getD q 0 ∧ (rowS R (1 + co) s k).getD q 0 ≤ 100 := fun k q hk hq => by
      rw [hrg q k hk]
      have u0 := (hsv.u q hq).n
      have u1 := hsv.le q hq
      obtain ⟨pp, w1, w2, w3⟩ := lmP_get (l := m) hq
      rw [w3] at u1
      have u1 : s.getD q 0 ≤ pp := u1
      split <;> omega
    rcases hE with ⟨rfl, hn0, hsv2⟩ | ⟨rfl, hn0⟩ | ⟨rfl, hn0⟩
    · repeat' (first | (refine SS_ ?_) | (refine Seq.val (addw_ok (by rfl) (by rfl) (IntKind.i64.wrap (cost + (i : Int))) rfl) (by rfl) (by rfl) ?_) | (refine Seq.callo false [(0, 1), (1, 2), (2, 3), (3, 4), (4, 5)] [(1, 0), (7, 7), (8, 8), (9, 9), (10, 10)] (.tup (.pair (relV x1 x2 x3 C) (.pair (.int .i64 0) .nul))) ([(1, bkI 7 8 9 10 b2), (7, acsO b2.A), (8, acsO b2.O), (9, liO b2.W), (10, boO b2.R)]) 11 (d1) Tryd.func12 gK_ok subG.refl (by rfl) (by rfl) rfl rfl rfl rfl rfl (by rfl) rfl (by rfl) (by rfl) (by rfl) (by rfl) VW_ NI_ R_ (noFrL_ok NI_) BK_ ?_) | (refine Seq.val (nebool_ok tt_ok (by rfl) (by rfl) (by rfl) false (by rw [show decide ((R.length : Int) = 0) = false from decide_eq_false (by omega)]; rfl)) (by rfl) (by rfl) ?_) | (refine Seq.callq false (c3) Tryd.func8 GG_ SG_ (by rfl) rfl rfl rfl (by rfl) rfl VW_ NI_ NI_ FR_ ?_) | (refine Seq.callq false (k2) Tryd.func8 GG_ SG_ (by rfl) rfl rfl rfl (by rfl) rfl VW_ NI_ NI_ FR_ ?_) | (refine VC.litT (by rfl) LTR_ ?_) | (refine VC.litF (by rfl) LFA_ ?_) | fail)
      refine VC.loop (fun k : Nat => ⟨[(20, .int .i64 (k : Nat)), (19, .int .i64 0), (17, .int .i64 (1 + co)), (16, .int .i64 (i : Nat)), (15, .sl 6 [] 1 0 40), (13, .ptr 1 []), (10, rlV (lmP m 40)), (9, .ptr 0 []), (2, .int .i64 cost), (3, .int .i64 many)], [(0, tabV S R), (1, bkI 7 8 9 10 b2), (7, acsO b2.A), (8, acsO b2.O), (9, liO b2.W), (10, boO b2.R), (6, .arr 40 1 (fun q => .int .i64 ((rowS R (1 + co) s k).getD q 0)))], gK, 12⟩) (fun k => k ≤ R.length) (fun k => R.length - k) 0 (by omega) (by
        rw [show rowS R (1 + co) s 0 = s from rfl]
        exact (Sim.less [] (by rfl) R_ R_)) fun k hk => ?_
      by_cases hkl : k < R.length
      · have e0 : ((k : Nat) : Int).toNat = k := Int.toNat_natCast k
        have hp := hRp k hkl
        have hv := hbd k (R.getD k rowZ).p.toNat (by omega) (by omega)
        have hst : rowS R (1 + co) s (k + 1) = (rowS R (1 + co) s k).set (R.getD k rowZ).p.toNat ((rowS R (1 + co) s k).getD (R.getD k rowZ).p.toNat 0 + (1 + co)) := rfl
        have hsl : (rowS R (1 + co) s k).length = 40 := by rw [rowS_len]; exact hsv.sl
        have e1 : ((R.getD ((k : Nat) : Int).toNat rowZ).p.toNat) = 0 + (R.getD ((k : Nat) : Int).toNat rowZ).p.toNat := (Nat.zero_add _).symm
        rw [← e0] at hp hv hst
        rw [e0] at hst
        have e2 : rowS R (1 + co) s ((k : Nat) : Int).toNat = rowS R (1 + co) s k := by rw [e0]
        rw [e2] at hv
        clear hbd hrg
        generalize hU : rowS R (1 + co) s (k + 1) = U2 at *
        generalize rowS R (1 + co) s k = U at *
        rw [e1] at hv
        repeat' (first | (refine SS_ ?_) | (refine VC.drawm (id := 17) [(0, 0), (1, 0), (2, 2), (3, 0), (4, 14), (5, 30), (6, 62), (7, 0), (8, 0), (9, 256), (10, 0), (11, 1792), (12, 3840), (13, 7936), (14, 16256), (15, 32640), (16, 0), (17, 130944), (18, 262143)] [19] (by rfl) (by kernel_rfl) (by rfl) ?_) | (refine Seq.lit (by rfl) (by rfl) LT2_ ?_) | (refine VC.litT (by rfl) LTR_ ?_) | (refine DD_ ?_) | fail)
        refine ⟨k + 1, by omega, by omega, ?_⟩
        dsimp only
        rw [← e0] at hst
        rw [hU, hst]
        (refine Sim.less [] (by rfl) ?_ ?_ <;> (repeat' (first | (exact EnvLe.nil) | (exact HeapLe.nil) | (with_reducible apply EnvLe.cons) | (with_reducible apply HeapLe.cons) | ((with_reducible refine RelA.int ?_; first | (refine Keep.mk ?_; first | with_reducible rfl | omega | decide) | skip)) | (exact rfl) | (exact ⟨rfl, rfl⟩) | ((with_reducible refine RelA.rsl ?_; intro i hi)) | ((with_reducible refine RelA.arr ?_; intro i hi)) | (with_reducible refine RelA.pair ?_ ?_) | fail)) <;> (try with_reducible refine Keep.mk ?_))
        exact rel_setG (G := AV.int .i64) (fun e => NI_) (by omega) (by show AV.int .i64 _ = AV.int .i64 _; rw [Nat.zero_add])
      obtain rfl : k = R.length := by omega
      repeat' (first | (refine SS_ ?_) | (refine Seq.lit (by rfl) (by rfl) LT2_ ?_) | (refine VC.litF (by rfl) LFA_ ?_) | fail)
      generalize hs2 : rowS R (1 + co) s R.length = s2 at *
      refine VC.loop (fun q : Nat => ⟨[(21, .int .i64 (q : Nat)), (16, .int .i64 (i : Nat)), (15, .sl 6 [] 1 0 40), (13, .ptr 1 []), (10, rlV (lmP m 40)), (9, .ptr 0 []), (2, .int .i64 cost), (3, .int .i64 many)], [(0, tabV S R), (1, bkI 7 8 9 10 b2), (7, acsO b2.A), (8, acsO b2.O), (9, liO b2.W), (10, boO b2.R), (6, .arr 40 1 (fun q => .int .i64 (s2.getD q 0)))], gK, 12⟩) (fun q => q ≤ 40) (fun q => 40 - q) 0 (by omega) (Sim.less [] (by rfl) R_ R_) fun q hq => ?_
      by_cases hql : q < 40
      · have y1 := spent_at hbb2 hsv2 hql
        have y2 := cmpS_ok hsv2 hql (show 0 + ((q : Nat) : Int).toNat = q by omega)
        obtain ⟨Y, hY, y3⟩ := cmpL_ok hsv2 hql (show ((q : Nat) : Int).toNat = q by omega)
        have hl40 := lmP_len m 40
        generalize (b2.A.getD q accZ).U = u at *
        repeat' (first | (refine SS_ ?_) | (refine Seq.callo false [(0, 1), (1, 7), (2, 8), (3, 9), (4, 10)] [(1, 0), (7, 1), (8, 2), (9, 3), (10, 4)] (.tup (.pair (ratA u) (.pair (.int .i64 0) .nul))) ([(1, bkI 7 8 9 10 b2), (7, acsO b2.A), (8, acsO b2.O), (9, liO b2.W), (10, boO b2.R)]) 12 (y1) Tryd.func16 gK_ok subG.nil (by rfl) (by rfl) rfl rfl rfl rfl rfl (by rfl) rfl (by rfl) (by rfl) (by rfl) (by rfl) VW_ NI_ R_ (noFrL_ok NI_) BK_ ?_) | (refine VC.drawm (id := 22) [(0, 0), (1, 1), (2, 3), (3, 7), (4, 7), (5, 7), (6, 55), (7, 119), (8, 247), (9, 511), (10, 1023), (11, 2047), (12, 4095), (13, 8191), (14, 8191), (15, 8191), (16, 57343), (17, 122879), (18, 262143), (19, 524287), (20, 1048575)] [] (by rfl) (by kernel_rfl) (by rfl) ?_) | (refine DSeq.callp false (y2) Tryd.func17 gK_ok subG.nil (by rfl) (fastE (by rfl)) (fastH (by rfl)) (by rfl) (by rfl) rfl rfl rfl rfl rfl (by rfl) (by rfl) VW_ NI_ NI_ FR_ ?_) | (refine DSeq.callp false (y3) Tryd.func17 gK_ok subG.nil (by rfl) (fastE (by rfl)) (fastH (by rfl)) (by rfl) (by rfl) rfl rfl rfl rfl rfl (by rfl) (by rfl) VW_ NI_ NI_ FR_ ?_) | (refine VC.litT (by rfl) LTR_ ?_) | (refine VC.litF (by rfl) LFA_ ?_) | (refine DD_ ?_) | fail)
        exact ⟨q + 1, by omega, by omega, by exact (Sim.less [] (by rfl) R_ R_)⟩
      · obtain rfl : q = 40 := by omega
        repeat' (first | (refine SS_ ?_) | (refine VC.litF (by rfl) LFA_ ?_) | fail)
        exact ⟨(i + 1, (b2, s2)), ⟨by show i + 1 ≤ _; omega, hbb2, hsv2⟩, by show (1 + mm).toNat - (i + 1) < (1 + mm).toNat - i; omega, by exact (Sim.less [(2, 7), (3, 8), (4, 9), (5, 10)] (by rfl) R_ R_)⟩
    · rw [hb2 (by decide)] at d1
      repeat' (first | (refine SS_ ?_) | (refine Seq.val (addw_ok (by rfl) (by rfl) (IntKind.i64.wrap (cost + (i : Int))) rfl) (by rfl) (by rfl) ?_) | (refine Seq.callo false [(0, 1), (1, 2), (2, 3), (3, 4), (4, 5)] [(1, 0), (7, 7), (8, 8), (9, 9), (10, 10)] (.tup (.pair (relV x1 x2 x3 C) (.pair (.int .i64 22) .nul))) ([(1, bkI 7 8 9 10 b), (7, acsO b.A), (8, acsO b.O), (9, liO b.W), (10, boO b.R)]) 11 (d1) Tryd.func12 gK_ok subG.refl (by rfl) (by rfl) rfl rfl rfl rfl rfl (by rfl) rfl (by rfl) (by rfl) (by rfl) (by rfl) VW_ NI_ R_ (noFrL_ok NI_) BK_ ?_) | (refine Seq.val (nebool_ok tt_ok (by rfl) (by rfl) (by rfl) false (by rw [show decide ((R.length : Int) = 0) = false from decide_eq_false (by omega)]; rfl)) (by rfl) (by rfl) ?_) | (refine Seq.callq false (c3) Tryd.func8 GG_ SG_ (by rfl) rfl rfl rfl (by rfl) rfl VW_ NI_ NI_ FR_ ?_) | (refine Seq.callq false (k2) Tryd.func8 GG_ SG_ (by rfl) rfl rfl rfl (by rfl) rfl VW_ NI_ NI_ FR_ ?_) | (refine VC.litT (by rfl) LTR_ ?_) | (refine VC.litF (by rfl) LFA_ ?_) | fail)
      refine VC.loop (fun k : Nat => ⟨[(20, .int .i64 (k : Nat)), (19, .int .i64 22), (16, .int .i64 (i : Nat)), (15, .sl 6 [] 1 0 40), (13, .ptr 1 []), (10, rlV (lmP m 40)), (9, .ptr 0 []), (2, .int .i64 cost), (3, .int .i64 many)], [(0, tabV S R), (1, bkI 7 8 9 10 b), (7, acsO b.A), (8, acsO b.O), (9, liO b.W), (10, boO b.R), (6, .arr 40 1 (fun q => .int .i64 (s.getD q 0)))], gK, 12⟩) (fun k => k = 0) (fun k => 1 - k) 0 rfl (Sim.less [] (by rfl) R_ R_) fun k hk => ?_
      obtain rfl : k = 0 := hk
      repeat' (first | (refine SS_ ?_) | (refine Seq.lit (by rfl) (by rfl) LT2_ ?_) | (refine VC.litF (by rfl) LFA_ ?_) | fail)
      have hsv2 := hsv.mono
      generalize hs2 : s = s2 at *
      refine VC.loop (fun q : Nat => ⟨[(21, .int .i64 (q : Nat)), (16, .int .i64 (i : Nat)), (15, .sl 6 [] 1 0 40), (13, .ptr 1 []), (10, rlV (lmP m 40)), (9, .ptr 0 []), (2, .int .i64 cost), (3, .int .i64 many)], [(0, tabV S R), (1, bkI 7 8 9 10 b), (7, acsO b.A), (8, acsO b.O), (9, liO b.W), (10, boO b.R), (6, .arr 40 1 (fun q => .int .i64 (s2.getD q 0)))], gK, 12⟩) (fun q => q ≤ 40) (fun q => 40 - q) 0 (by omega) (Sim.less [] (by rfl) R_ R_) fun q hq => ?_
      by_cases hql : q < 40
      · have y1 := spent_at hb hsv2 hql
        have y2 := cmpS_ok hsv2 hql (show 0 + ((q : Nat) : Int).toNat = q by omega)
        obtain ⟨Y, hY, y3⟩ := cmpL_ok hsv2 hql (show ((q : Nat) : Int).toNat = q by omega)
        have hl40 := lmP_len m 40
        generalize (b.A.getD q accZ).U = u at *
        repeat' (first | (refine SS_ ?_) | (refine Seq.callo false [(0, 1), (1, 7), (2, 8), (3, 9), (4, 10)] [(1, 0), (7, 1), (8, 2), (9, 3), (10, 4)] (.tup (.pair (ratA u) (.pair (.int .i64 0) .nul))) ([(1, bkI 7 8 9 10 b), (7, acsO b.A), (8, acsO b.O), (9, liO b.W), (10, boO b.R)]) 12 (y1) Tryd.func16 gK_ok subG.nil (by rfl) (by rfl) rfl rfl rfl rfl rfl (by rfl) rfl (by rfl) (by rfl) (by rfl) (by rfl) VW_ NI_ R_ (noFrL_ok NI_) BK_ ?_) | (refine VC.drawm (id := 22) [(0, 0), (1, 1), (2, 3), (3, 7), (4, 7), (5, 7), (6, 55), (7, 119), (8, 247), (9, 511), (10, 1023), (11, 2047), (12, 4095), (13, 8191), (14, 8191), (15, 8191), (16, 57343), (17, 122879), (18, 262143), (19, 524287), (20, 1048575)] [] (by rfl) (by kernel_rfl) (by rfl) ?_) | (refine DSeq.callp false (y2) Tryd.func17 gK_ok subG.nil (by rfl) (fastE (by rfl)) (fastH (by rfl)) (by rfl) (by rfl) rfl rfl rfl rfl rfl (by rfl) (by rfl) VW_ NI_ NI_ FR_ ?_) | (refine DSeq.callp false (y3) Tryd.func17 gK_ok subG.nil (by rfl) (fastE (by rfl)) (fastH (by rfl)) (by rfl) (by rfl) rfl rfl rfl rfl rfl (by rfl) (by rfl) VW_ NI_ NI_ FR_ ?_) | (refine VC.litT (by rfl) LTR_ ?_) | (refine VC.litF (by rfl) LFA_ ?_) | (refine DD_ ?_) | fail)
        exact ⟨q + 1, by omega, by omega, by exact (Sim.less [] (by rfl) R_ R_)⟩
      · obtain rfl : q = 40 := by omega
        repeat' (first | (refine SS_ ?_) | (refine VC.litF (by rfl) LFA_ ?_) | fail)
        exact ⟨(i + 1, (b, s2)), ⟨by show i + 1 ≤ _; omega, hb, hsv2⟩, by show (1 + mm).toNat - (i + 1) < (1 + mm).toNat - i; omega, by exact (Sim.less [(2, 7), (3, 8), (4, 9), (5, 10)] (by rfl) R_ R_)⟩
    · rw [hb2 (by decide)] at d1
      repeat' (first | (refine SS_ ?_) | (refine Seq.val (addw_ok (by rfl) (by rfl) (IntKind.i64.wrap (cost + (i : Int))) rfl) (by rfl) (by rfl) ?_) | (refine Seq.callo false [(0, 1), (1, 2), (2, 3), (3, 4), (4, 5)] [(1, 0), (7, 7), (8, 8), (9, 9), (10, 10)] (.tup (.pair (relV x1 x2 x3 C) (.pair (.int .i64 1) .nul))) ([(1, bkI 7 8 9 10 b), (7, acsO b.A), (8, acsO b.O), (9, liO b.W), (10, boO b.R)]) 11 (d1) Tryd.func12 gK_ok subG.refl (by rfl) (by rfl) rfl rfl rfl rfl rfl (by rfl) rfl (by rfl) (by rfl) (by rfl) (by rfl) VW_ NI_ R_ (noFrL_ok NI_) BK_ ?_) | (refine Seq.val (nebool_ok tt_ok (by rfl) (by rfl) (by rfl) false (by rw [show decide ((R.length : Int) = 0) = true from decide_eq_true (by omega)]; rfl)) (by rfl) (by rfl) ?_) | (refine Seq.callq false (c3) Tryd.func8 GG_ SG_ (by rfl) rfl rfl rfl (by rfl) rfl VW_ NI_ NI_ FR_ ?_) | (refine Seq.callq false (k2) Tryd.func8 GG_ SG_ (by rfl) rfl rfl rfl (by rfl) rfl VW_ NI_ NI_ FR_ ?_) | (refine VC.litT (by rfl) LTR_ ?_) | (refine VC.litF (by rfl) LFA_ ?_) | fail)
      refine VC.loop (fun k : Nat => ⟨[(20, .int .i64 (k : Nat)), (19, .int .i64 1), (16, .int .i64 (i : Nat)), (15, .sl 6 [] 1 0 40), (13, .ptr 1 []), (10, rlV (lmP m 40)), (9, .ptr 0 []), (2, .int .i64 cost), (3, .int .i64 many)], [(0, tabV S R), (1, bkI 7 8 9 10 b), (7, acsO b.A), (8, acsO b.O), (9, liO b.W), (10, boO b.R), (6, .arr 40 1 (fun q => .int .i64 (s.getD q 0)))], gK, 12⟩) (fun k => k = 0) (fun k => 1 - k) 0 rfl (Sim.less [] (by rfl) R_ R_) fun k hk => ?_
      obtain rfl : k = 0 := hk
      repeat' (first | (refine SS_ ?_) | (refine Seq.lit (by rfl) (by rfl) LT2_ ?_) | (refine VC.litF (by rfl) LFA_ ?_) | fail)
      have hsv2 := hsv.mono
      generalize hs2 : s = s2 at *
      refine VC.loop (fun q : Nat => ⟨[(21, .int .i64 (q : Nat)), (16, .int .i64 (i : Nat)), (15, .sl 6 [] 1 0 40), (13, .ptr 1 []), (10, rlV (lmP m 40)), (9, .ptr 0 []), (2, .int .i64 cost), (3, .int .i64 many)], [(0, tabV S R), (1, bkI 7 8 9 10 b), (7, acsO b.A), (8, acsO b.O), (9, liO b.W), (10, boO b.R), (6, .arr 40 1 (fun q => .int .i64 (s2.getD q 0)))], gK, 12⟩) (fun q => q ≤ 40) (fun q => 40 - q) 0 (by omega) (Sim.less [] (by rfl) R_ R_) fun q hq => ?_
      by_cases hql : q < 40
      · have y1 := spent_at hb hsv2 hql
        have y2 := cmpS_ok hsv2 hql (show 0 + ((q : Nat) : Int).toNat = q by omega)
        obtain ⟨Y, hY, y3⟩ := cmpL_ok hsv2 hql (show ((q : Nat) : Int).toNat = q by omega)
        have hl40 := lmP_len m 40
        generalize (b.A.getD q accZ).U = u at *
        repeat' (first | (refine SS_ ?_) | (refine Seq.callo false [(0, 1), (1, 7), (2, 8), (3, 9), (4, 10)] [(1, 0), (7, 1), (8, 2), (9, 3), (10, 4)] (.tup (.pair (ratA u) (.pair (.int .i64 0) .nul))) ([(1, bkI 7 8 9 10 b), (7, acsO b.A), (8, acsO b.O), (9, liO b.W), (10, boO b.R)]) 12 (y1) Tryd.func16 gK_ok subG.nil (by rfl) (by rfl) rfl rfl rfl rfl rfl (by rfl) rfl (by rfl) (by rfl) (by rfl) (by rfl) VW_ NI_ R_ (noFrL_ok NI_) BK_ ?_) | (refine VC.drawm (id := 22) [(0, 0), (1, 1), (2, 3), (3, 7), (4, 7), (5, 7), (6, 55), (7, 119), (8, 247), (9, 511), (10, 1023), (11, 2047), (12, 4095), (13, 8191), (14, 8191), (15, 8191), (16, 57343), (17, 122879), (18, 262143), (19, 524287), (20, 1048575)] [] (by rfl) (by kernel_rfl) (by rfl) ?_) | (refine DSeq.callp false (y2) Tryd.func17 gK_ok subG.nil (by rfl) (fastE (by rfl)) (fastH (by rfl)) (by rfl) (by rfl) rfl rfl rfl rfl rfl (by rfl) (by rfl) VW_ NI_ NI_ FR_ ?_) | (refine DSeq.callp false (y3) Tryd.func17 gK_ok subG.nil (by rfl) (fastE (by rfl)) (fastH (by rfl)) (by rfl) (by rfl) rfl rfl rfl rfl rfl (by rfl) (by rfl) VW_ NI_ NI_ FR_ ?_) | (refine VC.litT (by rfl) LTR_ ?_) | (refine VC.litF (by rfl) LFA_ ?_) | (refine DD_ ?_) | fail)
        exact ⟨q + 1, by omega, by omega, by exact (Sim.less [] (by rfl) R_ R_)⟩
      · obtain rfl : q = 40 := by omega
        repeat' (first | (refine SS_ ?_) | (refine VC.litF (by rfl) LFA_ ?_) | fail)
        exact ⟨(i + 1, (b, s2)), ⟨by show i + 1 ≤ _; omega, hb, hsv2⟩, by show (1 + mm).toNat - (i + 1) < (1 + mm).toNat - i; omega, by exact (Sim.less [(2, 7), (3, 8), (4, 9), (5, 10)] (by rfl) R_ R_)⟩
  · have cl := rlives_ok
    repeat' (first | (refine SS_ ?_) | (refine Seq.callp false (cl) Tryd.func15 gK_ok subG.nil (by rfl) (by rfl) rfl rfl rfl rfl rfl (by rfl) rfl VW_ NI_ NI_ FR_ ?_) | (refine Seq.callq false (c3) Tryd.func8 GG_ SG_ (by rfl) rfl rfl rfl (by rfl) rfl VW_ NI_ NI_ FR_ ?_) | (refine VC.litF (by rfl) LFA_ ?_) | fail)
    (refine retC_mk ([(8, .bool true)]) ([]) 7 (Sim.less [] (by rfl) R_ R_) (retQ_ok (by rfl) ([]) (fun i av h => h) ⟨?_, ?_⟩)) <;> rfl
end Go.Proofs.YtdbebdjnpckfdaaDoor
