/- Hidings: the weights of all numbers, a range over a function. Numbers that hide counts: Noise. Releases: the counts of a table. -/
import Derived.Test.YtdbebdjnpckfdaaDoorQj
import Derived.Test.YtdbebdjnpckfdaaDoorQe
import Derived.Test.YtdbebdjnpckfdaaDoorQa
set_option linter.unusedSimpArgs false
set_option linter.unusedVariables false
namespace Go.Proofs.YtdbebdjnpckfdaaDoor
open Go.V Go.RowKit Go.L Go.Lx Go.Rl
set_option maxRecDepth 10000
set_option maxHeartbeats 4000000
theorem weights_yes (c m k : Int) (hf : Fits m k) (hc : 0 ≤ c ∧ c ≤ m) : Ok Tryd.prog 34 [] [] (.pair (.int .i64 c) (.pair (.int .i64 m) (.pair (.int .i64 k) .nul))) (fun r h' => r = .tup (.pair (liV (wts c m k)) (.pair (.int .i64 0) .nul)) ∧ h' = []) := by
  have hm := hf.fm
  have hk := hf.fk
  have c1 := hvalid_ok c m k (by omega) (by omega) (by omega)
  rw [decide_eq_true ⟨hf, hc⟩] at c1
  have c2 := hall_ok c m k
  have c3 := fun x (hx : 0 ≤ x ∧ x ≤ m) => hweight_ok c m k x hf hc hx
  have hl := wts_len c m k
  have hg := fun (x : Nat) (hx : (x : Int) ≤ m) => wts_get (c := c) (k := k) hx
  generalize wts c m k = L at *
  refine Ok.of_vcM tt_ok Tryd.func34 rfl rfl (by show 3 ≤ _; decide) 0 (hlt_ok (by rfl)) fun c0 => ?_
  refine VCX.seqV ?_
  repeat' (first | (refine SS_ ?_) | fail)
  refine VCX.seqV ?_
  repeat' (first | (refine SS_ ?_) | fail)
  refine VCX.seqV ?_
  repeat' (first | (refine SS_ ?_) | (refine Seq.callp false (c1) Tryd.func52 GOk.nil subG.nil (by rfl) (by rfl) rfl rfl rfl rfl rfl (by rfl) rfl VW_ NI_ NI_ FR_ ?_) | (refine VC.litF (by rfl) LFA_ ?_) | fail)
  refine VCX.seqV ?_
  repeat' (first | (refine SS_ ?_) | fail)
  refine VCX.seq (by rfl) (VCX.seqV ?_)
  repeat' (first | (refine SS_ ?_) | (refine Seq.callo false [] [(2, 0)] (.fn (.func 67) .nul (.pair (.ptr 2 []) .nul)) ([(2, hidA c m k)]) 3 (c2) Tryd.func53 GOk.nil subG.nil (by rfl) (by rfl) rfl rfl rfl rfl rfl (by rfl) rfl (by rfl) (by rfl) (by rfl) (by rfl) VW_ NI_ R_ (noFrL_ok NI_) BK_ ?_) | fail)
  refine VCX.block (by rfl) (VCX.range (by rfl) (by rfl) (by rfl) (by rfl) (by rfl) (by rfl) (by rfl) (by rfl) ?_)
  intro cc d b rec hrec
  repeat' (first | (refine SS_ ?_) | fail)
  refine VC.conv (Sim.ghostO 1 1 (fun i => .int .i64 (([] : List Int).getD i 0)) (by rfl) (by rfl)) ?_
  refine VC.loop (fun x : Nat => ⟨[(7, .int .i64 (x : Nat)), (6, .int .i64 (m + 1)), (1, .ptr 2 []), (0, .val (.func (.yield b) #[] #[]))], [(4, .ob b (.loop { rec with state := .ready, pending := none })), (3, .ob d (.deferred (some []))), (2, hidA c m k), (1, .sl 5 [] 1 0 (L.take x).length), (5, liO (L.take x))], [], 6⟩) (fun x => (x : Int) ≤ m + 1) (fun x => (m + 1).toNat - x) 0 (by omega) (by
    (refine Sim.less [] (by rfl) ?_ ?_ <;> (repeat' (first | (exact EnvLe.nil) | (exact HeapLe.nil) | (with_reducible apply EnvLe.cons) | (with_reducible apply HeapLe.cons) | ((with_reducible refine RelA.int ?_; first | (refine Keep.mk ?_; first | with_reducible rfl | omega | decide) | skip)) | (exact rfl) | (exact ⟨rfl, rfl⟩) | (with_reducible refine RelA.pair ?_ ?_) | ((refine RelA.arr ?_; intro i hi)) | fail)) <;> (try with_reducible refine Keep.mk ?_))
    all_goals rfl) fun x hx => ?_
  by_cases hxm : (x : Int) < m + 1
  · have hTl : (L.take x).length = x := by rw [List.length_take]; omega
    have hts : L.take (x + 1) = L.take x ++ [L.getD x 0] := take_snoc (by omega)
    have c3 := c3 x ⟨by omega, by omega⟩
    rw [← hg x (by omega)] at c3
    generalize hT : L.take (x + 1) = T2 at *
    generalize L.take x = T at *
    repeat' (first | (refine VC.regionY 5 (by rfl) ?_) | (first | with_reducible refine VC.seq ?_ | with_reducible refine VC.block ?_ | with_reducible refine VC.region ?_ | with_reducible refine VC.exit ?_ | with_reducible refine VC.ret ?_ | with_reducible refine VC.skip ?_ | with_reducible refine Seq.nil ?_ | with_reducible refine thenQ_n ?_ | with_reducible refine thenQ_r ?_ | with_reducible refine thenQ_e ?_ | with_reducible refine inQ_n ?_ | with_reducible refine inQ_r ?_ | with_reducible refine inQ_e ?_ | ((with_reducible refine inQ_o ?_ ?_); rfl) | (refine Seq.ev0 true tt_ok (by rfl) (by (first | exact trivial | exact u8_in _ rfl | exact u32_in _ rfl | ((with_reducible refine AllP.guard ?_); simp only [AllP, inI, fitV, maxK, inK, inbL, inb, List.append, List.cons_append, List.nil_append, true_and, and_true]; first | done | omega))) rfl rfl rfl ?_) | (refine Seq.ev true tt_ok (by rfl) (by (first | exact trivial | exact u8_in _ rfl | exact u32_in _ rfl | ((with_reducible refine AllP.guard ?_); simp only [AllP, inI, fitV, maxK, inK, inbL, inb, List.append, List.cons_append, List.nil_append, true_and, and_true]; first | done | omega))) rfl rfl rfl ?_) | (refine Seq.evn true tt_ok (by rfl) (by (first | exact trivial | exact u8_in _ rfl | exact u32_in _ rfl | ((with_reducible refine AllP.guard ?_); simp only [AllP, inI, fitV, maxK, inK, inbL, inb, List.append, List.cons_append, List.nil_append, true_and, and_true]; first | done | omega))) rfl ?_) | (refine Seq.pass (by rfl) rfl ?_)) | (refine Seq.callp false (c3) Tryd.func68 GOk.nil subG.nil (by rfl) (by rfl) rfl rfl rfl rfl rfl (by rfl) rfl VW_ NI_ NI_ FR_ ?_) | (refine VC.litT (by rfl) LTR_ ?_) | fail)
    refine YTo.round (id := 4) hrec (by rfl) (by rfl) (by rfl) (by rfl) (by rfl) (by rfl) (by rfl) (by rfl) fun cy hcy => ?_
    repeat' (first | (refine SS_ ?_) | fail)
    refine ⟨by rfl, ?_⟩
    repeat' (first | (refine SS_ ?_) | fail)
    refine ⟨none, by rfl, by rfl, ?_⟩
    repeat' (first | (refine SS_ ?_) | (refine VC.litF (by rfl) LFA_ ?_) | fail)
    refine ⟨x + 1, by omega, by omega, ?_⟩
    rw [hT, hts]
    show ∀ a_1 w, _ → Sim _ ⟨[(7, .int .i64 ((x + 1 : Nat) : Int)), (6, .int .i64 (m + 1)), (1, .ptr 2 []), (0, .val (.func (.yield b) #[] #[]))], [(4, .ob b (.loop { rec with state := .ready, pending := none })), (3, .ob d (.deferred (some []))), (2, hidA c m k), (1, .sl 5 [] 1 0 (T ++ [L.getD x 0]).length), (5, .arr (T ++ [L.getD x 0]).length 1 (fun i => .int .i64 ((T ++ [L.getD x 0]).getD i 0)))], [], 6⟩ a_1 w
    rw [List.length_append, List.length_singleton]
    (refine Sim.less [(5, 7)] (by rfl) ?_ ?_ <;> (repeat' (first | (exact EnvLe.nil) | (exact HeapLe.nil) | (with_reducible apply EnvLe.cons) | (with_reducible apply HeapLe.cons) | ((with_reducible refine RelA.int ?_; first | (refine Keep.mk ?_; first | with_reducible rfl | omega | decide) | skip)) | (exact rfl) | (exact ⟨rfl, rfl⟩) | (with_reducible refine RelA.pair ?_ ?_) | ((refine RelA.arr ?_; intro i hi)) | fail)) <;> (try with_reducible refine Keep.mk ?_))
    exact rel_snocG (G := AV.int .i64) (fun e => NI_) hi
  · obtain rfl : x = (m + 1).toNat := by omega
    rw [← hl, List.take_length]
    repeat' (first | (refine SS_ ?_) | (refine VC.litF (by rfl) LFA_ ?_) | fail)
    refine ⟨.inr rfl, none, .ready, .normal, (fun h => by cases h), rfl, by rfl, fun cf => ?_⟩
    refine ⟨by rfl, ?_⟩
    refine VCX.seqV ?_
    repeat' (first | (refine SS_ ?_) | fail)
    refine VCX.of_vc ?_
    repeat' (first | (refine SS_ ?_) | fail)
    refine retM_one 3 d (by rfl) (by rfl) rfl ?_
    refine retC_conv' (s' := ⟨[(6, .sl 5 [] 1 0 L.length), (7, .int .i64 0)], [(5, liO L)], [], 6⟩) (Sim.less [] (by rfl) R_ R_) ?_
    refine retC_conv' (Sim.stillN (e' := [(6, liV L), (7, .int .i64 0)]) (h' := []) [5] (by rfl) HeapN.nil (EnvN.cons (by rfl) (viewN_li' (by rfl) rfl rfl) (EnvN.cons (by rfl) (.rel R_) EnvN.nil))) ?_
    (refine retC_mk ([(6, liV L), (7, .int .i64 0)]) ([]) 6 (Sim.less [] (by rfl) R_ R_) (retQ_ok (by rfl) ([]) (fun i av h => h) ⟨?_, ?_⟩)) <;> rfl
end Go.Proofs.YtdbebdjnpckfdaaDoor

namespace Go.Proofs.YtdbebdjnpckfdaaDoor
open Go.V Go.RowKit Go.U Go.L Go.Lx Go.Dw Go.Rl
set_option maxRecDepth 10000
set_option maxHeartbeats 4000000
theorem noise_ok (seed : List UInt8) (hs : seed.length ≤ 32) (path : List Int) (hp : path.length ≤ 8) (hI : ∀ i, I64 (path.getD i 0)) (hw : drw seed path 0 < 280925220896768) (c m k : Int) (hf : Fits m k) (hc : 0 ≤ c ∧ c ≤ m) : Ok Tryd.prog 32 gK [] (.pair (.str seed) (.pair (liV path) (.pair (.int .i64 c) (.pair (.int .i64 m) (.pair (.int .i64 k) .nul))))) (fun r h' => r = .tup (.pair (.int .i64 (noiV m k c (drw seed path 0))) (.pair (.int .i64 0) .nul)) ∧ h' = []) := by
  have hm := hf.fm
  have hk := hf.fk
  have hN := nN_bd hf
  have a1 := num_ok seed hs path hp hI 1 ⟨by decide, by decide⟩ (taken ⟨by decide, by decide⟩ hw)
  have a2 := num_ok seed hs path hp hI (nN m k) ⟨by omega, by omega⟩ (taken hN hw)
  have c1 := hvalid_ok c m k (by omega) (by omega) (by omega)
  rw [decide_eq_true ⟨hf, hc⟩] at c1
  have c2 := hall_ok c m k
  have c3 := fun x (hx : 0 ≤ x ∧ x ≤ m) => hweight_ok c m k x hf hc hx
  have hwb := fun x (hx : 0 ≤ x ∧ x ≤ m) => wt_bd hf hc hx
  have hl := wts_len c m k
  have hg := fun (x : Nat) (hx : (x : Int) ≤ m) => wts_get (c := c) (k := k) hx
  have hkm : 0 ≤ k * m ∧ k * m ≤ 38 := by
    have h1 : k * (m + 1) = k * m + k := by rw [Int.mul_add, Int.mul_one]
    have h2 := hf.fs
    exact ⟨Int.mul_nonneg (by omega) (by omega), by omega⟩
  have hpk := pw_pos k
  have hpk2 := pw_38 (show k ≤ 38 by omega)
  have s1 := shl_pw (a := 1) (by decide) (n := k) (by omega) (by omega)
  rw [Int.one_mul (pw _)] at s1
  have s2 := shl_pw (a := pw k + 1) (by omega) (n := k * m) (by omega) (by unfold nN at hN; omega)
  rw [show (pw k + 1) * pw (k * m) = nN m k from rfl] at s2
  have hr0 : 0 ≤ drw seed path 0 % nN m k ∧ drw seed path 0 % nN m k < nN m k := ⟨Int.emod_nonneg _ (by omega), Int.emod_lt_of_pos _ (by omega)⟩
  unfold noiV
  rw [show drw seed path 0 % 1 = 0 by omega] at a1
  generalize drw seed path 0 % nN m k = r0 at *
  generalize nN m k = NN at *
  generalize pw k = K at *
  have hsc := fun x r => scan_step (m := m) (L := wts c m k) (x := x) (r := r)
  have hV : scan m (wts c m k) r0 0 = scan m ((wts c m k).drop 0) r0 0 := rfl
  generalize scan m (wts c m k) r0 0 = V at *
  generalize wts c m k = L at *
  refine Ok.of_vcM tt_ok Tryd.func32 rfl rfl (by show 5 ≤ _; decide) 0 (hlt_ok (by rfl)) fun c0 => ?_
  refine VCX.seqV ?_
  repeat' (first | (refine SS_ ?_) | fail)
  refine VCX.seqV ?_
  repeat' (first | (refine SS_ ?_) | fail)
  refine VCX.seqV ?_
  repeat' (first | (refine SS_ ?_) | (refine Seq.callq false (a1) Tryd.func51 GG_ SG_ (by rfl) rfl rfl rfl (by rfl) rfl VW_ NI_ NI_ FR_ ?_) | (refine VC.litF (by rfl) LFA_ ?_) | fail)
  refine VCX.seqV ?_
  repeat' (first | (refine SS_ ?_) | (refine Seq.callq false (c1) Tryd.func52 GG_ SG_ (by rfl) rfl rfl rfl (by rfl) rfl VW_ NI_ NI_ FR_ ?_) | (refine VC.litF (by rfl) LFA_ ?_) | fail)
  refine VCX.seqV ?_
  repeat' (first | (refine SS_ ?_) | fail)
  refine Seq.conv (s' := ⟨[(36, .str seed), (37, liV path), (44, .int .i64 NN), (12, .ptr 2 []), (11, .ptr 1 []), (10, .ptr 0 []), (3, .int .i64 m)], [(2, hidA c m k), (1, .int .i64 0), (0, .int .i64 0)], gK, 3⟩) (by
    (refine Sim.less [] (by rfl) ?_ ?_ <;> (repeat' (first | (exact EnvLe.nil) | (exact HeapLe.nil) | (with_reducible apply EnvLe.cons) | (with_reducible apply HeapLe.cons) | ((with_reducible refine RelA.int ?_; first | (refine Keep.mk ?_; first | with_reducible rfl | omega | decide) | skip)) | (exact rfl) | (exact ⟨rfl, rfl⟩) | ((with_reducible refine RelA.rsl ?_; intro i hi)) | (refine RelA.pair ?_ ?_) | fail)) <;> (try with_reducible refine Keep.mk ?_))
    rw [s1, s2]) ?_
  repeat' (first | (refine SS_ ?_) | (refine Seq.callq false (a2) Tryd.func51 GG_ SG_ (by rfl) rfl rfl rfl (by rfl) rfl VW_ NI_ NI_ FR_ ?_) | fail)
  refine VCX.seqV ?_
  repeat' (first | (refine SS_ ?_) | (refine VC.litF (by rfl) LFA_ ?_) | fail)
  refine VCX.seq (by rfl) (VCX.seqV ?_)
  repeat' (first | (refine SS_ ?_) | (refine Seq.callo false [] [(4, 0)] (.fn (.func 67) .nul (.pair (.ptr 4 []) .nul)) ([(4, hidA c m k)]) 5 (c2) Tryd.func53 gK_ok subG.nil (by rfl) (by rfl) rfl rfl rfl rfl rfl (by rfl) rfl (by rfl) (by rfl) (by rfl) (by rfl) VW_ NI_ R_ (noFrL_ok NI_) BK_ ?_) | fail)
  refine VCX.block (by rfl) (VCX.range (by rfl) (by rfl) (by rfl) (by rfl) (by rfl) (by rfl) (by rfl) (by rfl) ?_)
  intro cc d b rec hrec
  repeat' (first | (refine SS_ ?_) | fail)
  refine VC.loop (fun p : Nat × Int => ⟨[(7, .int .i64 (p.1 : Nat)), (6, .int .i64 (m + 1)), (1, .ptr 4 []), (0, .val (.func (.yield b) #[] #[]))], [(6, .ob b (.loop { rec with state := .ready, pending := none })), (5, .ob d (.deferred (some []))), (4, hidA c m k), (3, .int .i64 p.2), (1, .int .i64 0), (0, .int .i64 0)], gK, 7⟩) (fun p => (p.1 : Int) ≤ m + 1 ∧ 0 ≤ p.2 ∧ p.2 ≤ r0 ∧ V = scan m (L.drop p.1) p.2 p.1) (fun p => (m + 1).toNat - p.1) (0, r0) ⟨by show (0 : Int) ≤ _; omega, hr0.1, Int.le_refl _, hV⟩ (by
    exact (Sim.less [] (by rfl) R_ R_)
    all_goals rfl) fun p hp2 => ?_
  obtain ⟨x, r⟩ := p
  obtain ⟨hx, hr1, hr2, hV2⟩ := hp2
  change (x : Int) ≤ m + 1 at hx
  change 0 ≤ r at hr1
  change r ≤ r0 at hr2
  change V = scan m (L.drop x) r x at hV2
  show VC _ _ _ ⟨[(7, .int .i64 (x : Nat)), (6, .int .i64 (m + 1)), (1, .ptr 4 []), (0, .val (.func (.yield b) #[] #[]))], [(6, .ob b (.loop { rec with state := .ready, pending := none })), (5, .ob d (.deferred (some []))), (4, hidA c m k), (3, .int .i64 r), (1, .int .i64 0), (0, .int .i64 0)], gK, 7⟩
  by_cases hxm : (x : Int) < m + 1
  · have c3 := c3 x ⟨by omega, by omega⟩
    have hwb := hwb x ⟨by omega, by omega⟩
    rw [← hg x (by omega)] at c3 hwb
    rw [hsc x r (by omega)] at hV2
    generalize L.getD x 0 = w at *
    by_cases hr : r < w
    · rw [if_pos hr] at hV2
      repeat' (first | (refine VC.regionY 5 (by rfl) ?_) | (first | with_reducible refine VC.seq ?_ | with_reducible refine VC.block ?_ | with_reducible refine VC.region ?_ | with_reducible refine VC.exit ?_ | with_reducible refine VC.ret ?_ | with_reducible refine VC.skip ?_ | with_reducible refine Seq.nil ?_ | with_reducible refine thenQ_n ?_ | with_reducible refine thenQ_r ?_ | with_reducible refine thenQ_e ?_ | with_reducible refine inQ_n ?_ | with_reducible refine inQ_r ?_ | with_reducible refine inQ_e ?_ | ((with_reducible refine inQ_o ?_ ?_); rfl) | (refine Seq.ev0 true tt_ok (by rfl) (by (first | exact trivial | exact u8_in _ rfl | exact u32_in _ rfl | ((with_reducible refine AllP.guard ?_); simp only [AllP, inI, fitV, maxK, inK, inbL, inb, List.append, List.cons_append, List.nil_append, true_and, and_true]; first | done | omega))) rfl rfl rfl ?_) | (refine Seq.ev true tt_ok (by rfl) (by (first | exact trivial | exact u8_in _ rfl | exact u32_in _ rfl | ((with_reducible refine AllP.guard ?_); simp only [AllP, inI, fitV, maxK, inK, inbL, inb, List.append, List.cons_append, List.nil_append, true_and, and_true]; first | done | omega))) rfl rfl rfl ?_) | (refine Seq.evn true tt_ok (by rfl) (by (first | exact trivial | exact u8_in _ rfl | exact u32_in _ rfl | ((with_reducible refine AllP.guard ?_); simp only [AllP, inI, fitV, maxK, inK, inbL, inb, List.append, List.cons_append, List.nil_append, true_and, and_true]; first | done | omega))) rfl ?_) | (refine Seq.pass (by rfl) rfl ?_)) | (refine Seq.callq false (c3) Tryd.func68 GG_ SG_ (by rfl) rfl rfl rfl (by rfl) rfl VW_ NI_ NI_ FR_ ?_) | (refine VC.litT (by rfl) LTR_ ?_) | fail)
      refine YTo.round (id := 6) hrec (by rfl) (by rfl) (by rfl) (by rfl) (by rfl) (by rfl) (by rfl) (by rfl) fun cy hcy => ?_
      repeat' (first | (refine SS_ ?_) | fail)
      refine ⟨by rfl, ?_⟩
      repeat' (first | (refine SS_ ?_) | (refine VC.litT (by rfl) LTR_ ?_) | fail)
      refine ⟨some .ret, by rfl, by rfl, ?_⟩
      repeat' (first | (refine SS_ ?_) | (refine VC.litT (by rfl) LTR_ ?_) | fail)
      refine ⟨.inl rfl, some .ret, .done, .ret, (fun h => by cases h), rfl, by rfl, fun cf => ?_⟩
      refine retM_one 5 d (by rfl) (by rfl) rfl ?_
      rw [hV2]
      exact retC_mk [(10, .ptr 0 []), (11, .ptr 1 [])] [(0, .int .i64 (x : Nat)), (1, .int .i64 0)] 7 (Sim.less [] (by rfl) R_ R_) (retQ_ok (by rfl) [] nil_sub ⟨rfl, rfl⟩)
    · rw [if_neg hr] at hV2
      repeat' (first | (refine VC.regionY 5 (by rfl) ?_) | (first | with_reducible refine VC.seq ?_ | with_reducible refine VC.block ?_ | with_reducible refine VC.region ?_ | with_reducible refine VC.exit ?_ | with_reducible refine VC.ret ?_ | with_reducible refine VC.skip ?_ | with_reducible refine Seq.nil ?_ | with_reducible refine thenQ_n ?_ | with_reducible refine thenQ_r ?_ | with_reducible refine thenQ_e ?_ | with_reducible refine inQ_n ?_ | with_reducible refine inQ_r ?_ | with_reducible refine inQ_e ?_ | ((with_reducible refine inQ_o ?_ ?_); rfl) | (refine Seq.ev0 true tt_ok (by rfl) (by (first | exact trivial | exact u8_in _ rfl | exact u32_in _ rfl | ((with_reducible refine AllP.guard ?_); simp only [AllP, inI, fitV, maxK, inK, inbL, inb, List.append, List.cons_append, List.nil_append, true_and, and_true]; first | done | omega))) rfl rfl rfl ?_) | (refine Seq.ev true tt_ok (by rfl) (by (first | exact trivial | exact u8_in _ rfl | exact u32_in _ rfl | ((with_reducible refine AllP.guard ?_); simp only [AllP, inI, fitV, maxK, inK, inbL, inb, List.append, List.cons_append, List.nil_append, true_and, and_true]; first | done | omega))) rfl rfl rfl ?_) | (refine Seq.evn true tt_ok (by rfl) (by (first | exact trivial | exact u8_in _ rfl | exact u32_in _ rfl | ((with_reducible refine AllP.guard ?_); simp only [AllP, inI, fitV, maxK, inK, inbL, inb, List.append, List.cons_append, List.nil_append, true_and, and_true]; first | done | omega))) rfl ?_) | (refine Seq.pass (by rfl) rfl ?_)) | (refine Seq.callq false (c3) Tryd.func68 GG_ SG_ (by rfl) rfl rfl rfl (by rfl) rfl VW_ NI_ NI_ FR_ ?_) | (refine VC.litT (by rfl) LTR_ ?_) | fail)
      refine YTo.round (id := 6) hrec (by rfl) (by rfl) (by rfl) (by rfl) (by rfl) (by rfl) (by rfl) (by rfl) fun cy hcy => ?_
      repeat' (first | (refine SS_ ?_) | fail)
      refine ⟨by rfl, ?_⟩
      repeat' (first | (refine SS_ ?_) | (refine VC.litF (by rfl) LFA_ ?_) | fail)
      refine ⟨none, by rfl, by rfl, ?_⟩
      repeat' (first | (refine SS_ ?_) | (refine VC.litF (by rfl) LFA_ ?_) | fail)
      exact ⟨(x + 1, r - w), ⟨by show ((x + 1 : Nat) : Int) ≤ _; omega, by show 0 ≤ r - w; omega, by show r - w ≤ _; omega, hV2⟩, by show (m + 1).toNat - (x + 1) < (m + 1).toNat - x; omega, by exact (Sim.less [] (by rfl) R_ R_)⟩
  · obtain rfl : x = (m + 1).toNat := by omega
    rw [← hl, List.drop_length] at hV2
    repeat' (first | (refine SS_ ?_) | (refine VC.litF (by rfl) LFA_ ?_) | fail)
    refine ⟨.inr rfl, none, .ready, .normal, (fun h => by cases h), rfl, by rfl, fun cf => ?_⟩
    refine ⟨by rfl, ?_⟩
    refine VCX.of_vc ?_
    repeat' (first | (refine SS_ ?_) | fail)
    refine retM_one 5 d (by rfl) (by rfl) rfl ?_
    rw [hV2]
    exact retC_mk [(10, .ptr 0 []), (11, .ptr 1 [])] [(0, .int .i64 m), (1, .int .i64 0)] 7 (Sim.less [] (by rfl) R_ R_) (retQ_ok (by rfl) [] nil_sub ⟨rfl, rfl⟩)
end Go.Proofs.YtdbebdjnpckfdaaDoor

namespace Go.Proofs.YtdbebdjnpckfdaaDoor
open Go.V Go.RowKit Go.L Go.Lx Go.Rl
set_option maxRecDepth 10000
set_option maxHeartbeats 4000000
def vI (n : Int) : AV := .int .i64 n
theorem u_many : Tryd.prog.underlying 99 = some (.map 3 3) := by kernel_rfl
theorem z_intT : ∀ ti, tget TT 3 = some ti → zB Tryd.prog 3 ti = true := by
  intro ti h
  cases h
  kernel_rfl
def cntA (l : List (Int × Int)) : AV := moL kI vI (0, 0) l
theorem look_cnt {g e h : Asc} {x y : Operand} {d : Option Tmp} {ty : TypeId} {pos : String} {af : Array Edge} {gd : Option (Nat × Bool)} {id : Nat} {l : List (Int × Int)} {v : Int} (hx : ev g e x = some (.mp id)) (ho : get? h id = some (cntA l)) (hy : ev g e y = some (.int .i64 v)) :
    OpOk Tryd.prog ⟨d, .lookup 99 x y false, ty, pos, af, gd⟩ g e h (some (.int .i64 (mGet l v))) h [] := by
  cases hf : mFind l v with
  | some u =>
    have := lookS_ok (P := Tryd.prog) (K := kI) (V := vI) (d := d) (ty := ty) (pos := pos) (af := af) (gd := gd) tt_ok (by rfl) u_many keyT (z_intT _ rfl) hx ho hy hf
    have e : mGet l v = u := by unfold mGet; rw [hf]; rfl
    rw [e]; exact this
  | none =>
    have := lookN_ok (P := Tryd.prog) (K := kI) (V := vI) (z0 := .int .i64 0) (d := d) (ty := ty) (pos := pos) (af := af) (gd := gd) tt_ok (by rfl) u_many keyT (z_intT _ rfl) hx ho hy hf rfl
    have e : mGet l v = 0 := by unfold mGet; rw [hf]; rfl
    rw [e]; exact this
abbrev cntF (a b : Nat) : AV := .fn (.func 50) .nul (.pair (.ptr a []) (.pair (.ptr b []) .nul))
theorem counts1_ok (m v : Int) (l : List (Int × Int)) : Ok Tryd.prog 50 [] [(0, .int .i64 m), (1, .mp 2), (2, cntA l)] (.pair (.int .i64 v) (.pair (.ptr 0 []) (.pair (.ptr 1 []) .nul))) (fun r h' => r = .int .i64 (min m (mGet l v)) ∧ h' = [(0, .int .i64 m), (1, .mp 2), (2, cntA l)]) := by
  refine Ok.of_vcC tt_ok Tryd.func50 rfl rfl (by show 3 ≤ _; decide) 3 (hlt_ok (by rfl)) fun c0 => ?_
  repeat' (first | (refine SS_ ?_) | (refine Seq.val (look_cnt (by rfl) (by rfl) (by rfl)) (by rfl) (by rfl) ?_) | (refine Seq.val (min_ok (by rfl) (by rfl)) (by rfl) (by rfl) ?_) | fail)
  (refine retC_mk ([(4, .int .i64 (min m (mGet l v)))]) ([(0, .int .i64 m), (1, .mp 2), (2, cntA l)]) 3 (Sim.less [] (by rfl) R_ R_) (retQ_ok (by rfl) ([(0, .int .i64 m), (1, .mp 2), (2, cntA l)]) (fun i av h => h) ⟨?_, ?_⟩)) <;> rfl
theorem counts_ok (S : List Int) (R : List Row) (f k : Int) (hR : R.length ≤ 64) (hV : ∀ i, i < R.length → (R.getD i rowZ).V.length = S.length) (hf : 0 ≤ f ∧ f < S.length) (hk : 1 ≤ k ∧ k ≤ 12) : Ok Tryd.prog 31 [] [] (.pair (tabV S R) (.pair (.int .i64 f) (.pair (.int .i64 k) .nul))) (fun r h' => r = .tup (.pair (.int .i64 (most k)) (.pair (cntF 0 1) .nul)) ∧ h' = [(0, .int .i64 (most k)), (1, .mp 2), (2, cntA (manyTo R f.toNat R.length))]) := by
  have hm := most_fits hk
  have hmo : most k = 38 / k - 1 := rfl
  have hml := hm.1.fm
  have hc := fun i v => many_get R f.toNat v i
  have hcl := fun i v => cntTo_le R f.toNat v i
  have hst : ∀ i, manyTo R f.toNat (i + 1) = mSet (manyTo R f.toNat i) ((R.getD i rowZ).V.getD f.toNat 0) (mGet (manyTo R f.toNat i) ((R.getD i rowZ).V.getD f.toNat 0) + 1) := fun _ => rfl
  refine Ok.of_vcC tt_ok Tryd.func31 rfl rfl (by show 3 ≤ _; decide) 0 (hlt_ok (by rfl)) fun c0 => ?_
  repeat' (first | (refine SS_ ?_) | fail)
  refine VC.loop (fun i : Nat => ⟨[(19, .int .i64 (i : Nat)), (18, .int .i64 R.length), (17, rowsV R), (1, .int .i64 f), (9, .ptr 3 []), (8, .ptr 1 [])], [(3, .mp 2), (2, cntA (manyTo R f.toNat i)), (1, .int .i64 (most k)), (0, tabV S R)], [], 4⟩) (fun i => i ≤ R.length) (fun i => R.length - i) 0 (by omega) (by
    (refine Sim.less [] (by rfl) ?_ ?_ <;> (repeat' (first | (exact EnvLe.nil) | (exact HeapLe.nil) | (with_reducible apply EnvLe.cons) | (with_reducible apply HeapLe.cons) | ((with_reducible refine RelA.int ?_; first | (refine Keep.mk ?_; first | with_reducible rfl | omega | decide) | skip)) | (exact rfl) | (exact ⟨rfl, rfl⟩) | ((with_reducible refine RelA.rsl ?_; intro i hi)) | (with_reducible refine RelA.pair ?_ ?_) | fail)) <;> (try with_reducible refine Keep.mk ?_))
    exact ⟨_, _, rfl, fun i hi => absurd hi (Nat.not_lt_zero i)⟩) fun i hi => ?_
  by_cases hil : i < R.length
  · have hVi := hV i hil
    have hko : R.getD ((i : Nat) : Int).toNat rowZ = R.getD i rowZ := by rw [Int.toNat_natCast]
    have hst := hst i
    have hci := hc i ((R.getD i rowZ).V.getD f.toNat 0)
    have hcl := hcl i ((R.getD i rowZ).V.getD f.toNat 0)
    rw [← hko] at hst hci hVi hcl
    clear hc hV
    generalize hM : manyTo R f.toNat (i + 1) = M2 at *
    generalize manyTo R f.toNat i = M at *
    repeat' (first | (refine SS_ ?_) | (refine VC.drawm (id := 6) [(0, 0), (1, 0), (2, 2), (3, 0), (4, 14), (5, 30), (6, 63), (7, 127)] [8] (by rfl) (by kernel_rfl) (by rfl) ?_) | (refine DSeq.val (by rfl) (by rfl) (by rfl) (look_cnt (by rfl) (by rfl) (by rfl)) (by rfl) (by rfl) ?_) | (refine Seq.eff (mapUpdate_ok (K := kI) (V := vI) (u := mGet M ((R.getD ((i : Nat) : Int).toNat rowZ).V.getD f.toNat 0) + 1) (l := M) (k := (R.getD ((i : Nat) : Int).toNat rowZ).V.getD f.toNat 0) u_many keyT (by rfl) (by rfl) (by rfl) (by rfl)) (by rfl) (by rfl) ?_) | (refine VC.litT (by rfl) LTR_ ?_) | (refine DD_ ?_) | fail)
    refine ⟨i + 1, by omega, by omega, ?_⟩
    rw [hM, hst]
    exact (Sim.less [] (by rfl) R_ R_)
  · obtain rfl : i = R.length := by omega
    repeat' (first | (refine SS_ ?_) | (refine VC.litF (by rfl) LFA_ ?_) | fail)
    refine retC_conv' (s' := ⟨[(6, .int .i64 (most k)), (7, cntF 0 1)], [(0, .int .i64 (most k)), (1, .mp 2), (2, cntA (manyTo R f.toNat R.length))], [], 5⟩) (Sim.less [(0, 1), (1, 3)] (by rfl) R_ R_) ?_
    (refine retC_mk ([(6, .int .i64 (most k)), (7, cntF 0 1)]) ([(0, .int .i64 (most k)), (1, .mp 2), (2, cntA (manyTo R f.toNat R.length))]) 5 (Sim.less [] (by rfl) R_ R_) (retQ_ok (by rfl) ([(0, .int .i64 (most k)), (1, .mp 2), (2, cntA (manyTo R f.toNat R.length))]) (fun i av h => h) ⟨?_, ?_⟩)) <;> rfl
end Go.Proofs.YtdbebdjnpckfdaaDoor
