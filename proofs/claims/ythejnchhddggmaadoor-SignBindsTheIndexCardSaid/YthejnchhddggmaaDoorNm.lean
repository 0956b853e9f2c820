
/- sign.Verify. -/
import Derived.Test.YthejnchhddggmaaDoorNl
set_option linter.unusedSimpArgs false
set_option linter.unusedVariables false
namespace Go.Proofs.YthejnchhddggmaaDoor
open Go.V Go.RowKit Go.U Go.L Go.Lx Go.Sg
set_option maxRecDepth 10000
set_option maxHeartbeats 4000000
/-- The value with a number out of a signature's rest. -/
def valR (R : List UInt8) (k : Nat) : List UInt8 := (List.range 16).map fun i => R.getD (16 * k + i) 0
theorem valR_length (R : List UInt8) (k : Nat) : (valR R k).length = 16 := by unfold valR; rw [List.length_map, List.length_range]
theorem valR_get (R : List UInt8) (k i : Nat) (h : i < 16) : (valR R k).getD i 0 = R.getD (16 * k + i) 0 := by
  unfold valR; rw [List.getD_eq_getElem?_getD, List.getElem?_map, List.getElem?_range h]; rfl
def valQ (n : Int) (D R : List UInt8) (c : Nat) : List UInt8 := advN n c (dig D c) (3 - dig D c).toNat (valR R c)
theorem valQ_length (n : Int) (D R : List UInt8) (c : Nat) : (valQ n D R c).length = 16 := advN_length _ _ _ _ (valR_length _ _) _
abbrev cap1 (R : List UInt8) : AV := .pair (.rptr false (bytesA false R)) .nul
abbrev capQ (n : Int) (D R : List UInt8) : AV := .pair (.rptr false (.int .i64 n)) (.pair (.rptr false (.rsl false 68 1 (fun j => .int .i64 (dig D j)))) (.pair (.rptr false (.fn (.func 37) .nul (cap1 R))) .nul))
theorem val1_ok (R : List UInt8) (k : Nat) (hk : (k + 1) * 16 ≤ R.length) (hR : R.length ≤ 100000000) : Ok Tryd.prog 37 [] [] (.pair (.int .i64 (k : Nat)) (cap1 R)) (fun r h' => r = digA (valR R k) ∧ h' = []) := by
  refine Ok.of_vcC tt_ok Tryd.func37 rfl rfl (by show 2 ≤ _; decide) 0 (hlt_ok (by rfl)) fun c0 => ?_
  repeat' (first | (refine SS_ ?_) | fail)
  refine retC_mk [(3, .ptr 0 [])] [(0, digA (valR R k))] 1 (by
    (refine Sim.less [] (by rfl) ?_ ?_ <;> (repeat' (first | (exact EnvLe.nil) | (exact HeapLe.nil) | (with_reducible apply EnvLe.cons) | (with_reducible apply HeapLe.cons) | ((with_reducible refine RelA.int ?_; first | (refine Keep.mk ?_; first | with_reducible rfl | omega | decide) | skip)) | (exact rfl) | (exact ⟨rfl, rfl⟩) | ((refine RelA.arr ?_; intro i hi)) | fail)) <;> (try with_reducible refine Keep.mk ?_))
    rw [valR_get R k i hi, show (((k : Nat) : Int) * 16).toNat + i = 16 * k + i by omega]) (retQ_ok (by rfl) [] nil_sub ⟨rfl, rfl⟩)
theorem chQ_ok (n : Int) (hn : I64 n) (D R : List UInt8) (hR : 68 * 16 ≤ R.length) (hR2 : R.length ≤ 100000000) (c : Nat) (hc : c < 68) : Ok Tryd.prog 39 gK [] (.pair (.int .i64 (c : Nat)) (capQ n D R)) (fun r h' => r = digA (valQ n D R c) ∧ h' = []) := by
  have hd := dig_le D c
  have c1 := val1_ok R c (by omega) hR2
  have c2 := adv_ok n c (dig D c) 3 (valR R c) (valR_length _ _) hn ⟨by omega, by omega⟩ ⟨by omega, by omega, by omega⟩
  have e1 : dig D ((c : Nat) : Int).toNat = dig D c := by rw [Int.toNat_natCast]
  rw [show advN n c (dig D c) ((3 : Int) - dig D c).toNat (valR R c) = valQ n D R c from rfl] at c2
  generalize valQ n D R c = Y at *
  generalize valR R c = X at *
  refine Ok.of_vc tt_ok Tryd.func39 rfl rfl (by show 4 ≤ _; decide) 0 (fun i av h => by cases h) fun c0 => ?_
  repeat' (first | (refine SS_ ?_) | (refine VC.drawm (id := 1) [(0, 0), (1, 0), (2, 0), (3, 0), (4, 12), (5, 28), (6, 0), (7, 0), (8, 192), (9, 511)] [10] (by rfl) (by kernel_rfl) (by rfl) ?_) | (refine DSeq.callp false (c1) Tryd.func37 gK_ok subG.nil (by rfl) (fastE (by rfl)) (fastH (by rfl)) (by rfl) (by rfl) rfl rfl rfl rfl rfl (by rfl) (by rfl) VW_ NI_ NI_ FR_ ?_) | (refine DD_ ?_) | (refine DSeq.callq false (c2) Tryd.func27 GG_ SG_ (by rfl) (fastE (by rfl)) (fastH (by rfl)) (by rfl) rfl rfl rfl (by rfl) (by rfl) VW_ NI_ NI_ FR_ ?_) | (((refine retQ_ok (by rfl) [] nil_sub ⟨?_, rfl⟩); try rfl)) | fail)
theorem leafQ_ok (n : Int) (hn : I64 n) (D R : List UInt8) (hR : 68 * 16 ≤ R.length) (hR2 : R.length ≤ 100000000) : Ok Tryd.prog 38 gK [] (.pair (.fn (.func 39) .nul (capQ n D R)) .nul) (fun r h' => r = digA (leafV (valQ n D R)) ∧ h' = []) := by
  have cv := fun c hc => chQ_ok n hn D R hR hR2 c hc
  have hVl := fun c => valQ_length n D R c
  generalize valQ n D R = V at *
  have hcl := catV_length V hVl
  refine Ok.of_vc tt_ok Tryd.func38 rfl rfl (by show 1 ≤ _; decide) 0 (fun i av h => by cases h) fun c0 => ?_
  repeat' (first | (refine Seq.allocB rfl (by rfl) (by rfl) (fun b => ?_)) | (first | with_reducible refine VC.seq ?_ | with_reducible refine VC.block ?_ | with_reducible refine VC.region ?_ | with_reducible refine VC.exit ?_ | with_reducible refine VC.ret ?_ | with_reducible refine VC.skip ?_ | with_reducible refine Seq.nil ?_ | with_reducible refine thenQ_n ?_ | with_reducible refine thenQ_r ?_ | with_reducible refine thenQ_e ?_ | with_reducible refine inQ_n ?_ | with_reducible refine inQ_r ?_ | with_reducible refine inQ_e ?_ | ((with_reducible refine inQ_o ?_ ?_); rfl) | (refine Seq.ev0 true tt_ok (by rfl) (by (first | exact trivial | exact u8_in _ rfl | exact u32_in _ rfl | ((with_reducible refine AllP.guard ?_); simp only [AllP, inI, fitV, maxK, inK, inbL, inb, List.append, List.cons_append, List.nil_append, true_and, and_true]; first | done | omega))) rfl rfl rfl ?_) | (refine Seq.ev true tt_ok (by rfl) (by (first | exact trivial | exact u8_in _ rfl | exact u32_in _ rfl | ((with_reducible refine AllP.guard ?_); simp only [AllP, inI, fitV, maxK, inK, inbL, inb, List.append, List.cons_append, List.nil_append, true_and, and_true]; first | done | omega))) rfl rfl rfl ?_) | (refine Seq.evn true tt_ok (by rfl) (by (first | exact trivial | exact u8_in _ rfl | exact u32_in _ rfl | ((with_reducible refine AllP.guard ?_); simp only [AllP, inI, fitV, maxK, inK, inbL, inb, List.append, List.cons_append, List.nil_append, true_and, and_true]; first | done | omega))) rfl ?_) | (refine Seq.pass (by rfl) rfl ?_)) | fail)
  refine VC.loop (fun p : Nat × Option BX => match p.2 with
    | none => ⟨[(7, .int .i64 (0 : Nat)), (3, .ptr 1 []), (2, .ptr 0 []), (0, .fn (.func 39) .nul (capQ n D R))], [(1, bldF b), (0, .arr 16 1 (fun _ => .int .u8 0))], gK, 2⟩
    | some x => ⟨[(7, .int .i64 (p.1 : Nat)), (3, .ptr 1 []), (2, .ptr 0 []), (0, .fn (.func 39) .nul (capQ n D R))], [(1, bldU x (catV V p.1).length), (2, bufU x), (0, .arr 16 1 (fun _ => .int .u8 0))], gK, 3⟩)
    (fun p => match p.2 with
    | none => p.1 = 0
    | some x => 1 ≤ p.1 ∧ p.1 ≤ 68 ∧ x.ok (catV V p.1)) (fun p => 68 - p.1) (0, none) rfl (Sim.less [] (by rfl) R_ R_) fun p hp => ?_
  obtain ⟨q, ox⟩ := p
  cases ox with
  | none =>
    obtain rfl : q = 0 := hp
    show VC _ _ _ ⟨[(7, .int .i64 (0 : Nat)), (3, .ptr 1 []), (2, .ptr 0 []), (0, .fn (.func 39) .nul (capQ n D R))], [(1, bldF b), (0, .arr 16 1 (fun _ => .int .u8 0))], gK, 2⟩
    have c1 := cv 0 (by decide)
    have hl := hVl 0
    have c2 := writeF_ok b (V 0) (by omega) (by omega)
    have e1 : catV V 1 = V 0 := by simp [catV]
    generalize V 0 = v at *
    repeat' (first | (refine SS_ ?_) | (refine Seq.callp false (c1) Tryd.func39 gK_ok subG.refl (by rfl) (by rfl) rfl rfl rfl rfl rfl (by rfl) rfl VW_ NI_ NI_ FR_ ?_) | (refine Seq.calloE true [(0, 1)] [(1, 0), (3, 1)] (fun _ => wrT v.length) (fun x => [(1, bldU x v.length), (3, bufU x)]) 4 (c2) Tryd.func25 gK_ok subG.nil (by rfl) (by rfl) rfl rfl rfl rfl rfl (by rfl) rfl (by rfl) (by rfl) (fun _ => by rfl) VW_ NI_ R_ (noFrL_ok NI_) (fun _ => BK_) ?_) | (refine VC.litT (by rfl) LTR_ ?_) | fail)
    intro x hx
    repeat' (first | (refine SS_ ?_) | fail)
    refine ⟨(1, some x), ⟨show 1 ≤ 1 by decide, show 1 ≤ 68 by decide, show x.ok (catV V 1) by rw [e1]; exact hx.1⟩, show 68 - 1 < 68 - 0 by decide, ?_⟩
    show ∀ a w, _ → Sim _ ⟨[(7, .int .i64 (1 : Nat)), (3, .ptr 1 []), (2, .ptr 0 []), (0, .fn (.func 39) .nul (capQ n D R))], [(1, bldU x (catV V 1).length), (2, bufU x), (0, .arr 16 1 (fun _ => .int .u8 0))], gK, 3⟩ a w
    rw [e1]
    exact (Sim.less [(2, 3)] (by rfl) R_ R_)
  | some x =>
    obtain ⟨h1, h2, h3⟩ : 1 ≤ q ∧ q ≤ 68 ∧ x.ok (catV V q) := hp
    show VC _ _ _ ⟨[(7, .int .i64 (q : Nat)), (3, .ptr 1 []), (2, .ptr 0 []), (0, .fn (.func 39) .nul (capQ n D R))], [(1, bldU x (catV V q).length), (2, bufU x), (0, .arr 16 1 (fun _ => .int .u8 0))], gK, 3⟩
    have hL := hcl q
    by_cases hq : q < 68
    · have c1 := cv q hq
      have hl := hVl q
      have c2 := writeU_ok x (catV V q) (V q) h3 (by omega) (by omega)
      have e1 := catV_succ V q
      have e2 : (catV V q ++ V q).length = (catV V (q + 1)).length := by rw [e1]
      rw [← e1] at c2
      generalize hY : catV V (q + 1) = Y at *
      generalize catV V q = X at *
      generalize V q = v at *
      repeat' (first | (refine SS_ ?_) | (refine Seq.callp false (c1) Tryd.func39 gK_ok subG.refl (by rfl) (by rfl) rfl rfl rfl rfl rfl (by rfl) rfl VW_ NI_ NI_ FR_ ?_) | (refine Seq.calloE true [(0, 1), (1, 2)] [(1, 0), (4, 2)] (fun _ => wrT v.length) (fun x => [(1, bldU x Y.length), (4, bufU x)]) 5 (c2) Tryd.func25 gK_ok subG.nil (by rfl) (by rfl) rfl rfl rfl rfl rfl (by rfl) rfl (by rfl) (by rfl) (fun _ => by rfl) VW_ NI_ R_ (noFrL_ok NI_) (fun _ => BK_) ?_) | (refine VC.litT (by rfl) LTR_ ?_) | fail)
      intro y hy
      repeat' (first | (refine SS_ ?_) | fail)
      refine ⟨(q + 1, some y), ⟨by show 1 ≤ q + 1; omega, by show q + 1 ≤ 68; omega, by show y.ok (catV V (q + 1)); rw [hY]; exact hy.1⟩, by show 68 - (q + 1) < 68 - q; omega, ?_⟩
      show ∀ a w, _ → Sim _ ⟨[(7, .int .i64 ((q + 1 : Nat) : Int)), (3, .ptr 1 []), (2, .ptr 0 []), (0, .fn (.func 39) .nul (capQ n D R))], [(1, bldU y (catV V (q + 1)).length), (2, bufU y), (0, .arr 16 1 (fun _ => .int .u8 0))], gK, 3⟩ a w
      rw [hY]
      exact (Sim.less [(2, 4)] (by rfl) R_ R_)
    · obtain rfl : q = 68 := by omega
      have c1 := string_ok x (catV V 68) h3 (by omega)
      have c2 := ofD_ok 3 [catV V 68] (by decide) (by simp) (by have := parts1_len (catV V 68); omega)
      have hK : (digD 3 [catV V 68]).length = 16 := digD_length _ _
      have c3 := ofD_ok 1 [digD 3 [catV V 68]] (by decide) (by simp) (by have := parts1_len (digD 3 [catV V 68]); omega)
      unfold leafV
      generalize digD 1 [digD 3 [catV V 68]] = Z at *
      generalize digD 3 [catV V 68] = Y at *
      generalize catV V 68 = X at *
      repeat' (first | (refine SS_ ?_) | (refine Seq.callo false [(0, 1), (1, 2)] [] (.str X) ([]) 3 (c1) Tryd.func29 gK_ok subG.nil (by rfl) (by rfl) rfl rfl rfl rfl rfl (by rfl) rfl (by rfl) (by rfl) (by rfl) (by rfl) VW_ NI_ R_ (noFrL_ok NI_) BK_ ?_) | (refine Seq.str (Y) tt_ok (by rfl) (by rfl) (by rfl) (by rfl) (by rfl) (by (first | exact trivial | exact u8_in _ rfl | exact u32_in _ rfl | ((with_reducible refine AllP.guard ?_); simp only [AllP, inI, fitV, maxK, inK, inbL, inb, List.append, List.cons_append, List.nil_append, true_and, and_true]; first | done | omega))) (by rfl) (.inl rfl) (by rfl) rfl (hK) (fun i hi => by first | exact rfl | simp only [Nat.zero_add]) ?_) | (refine Seq.callq true (c2) Tryd.func34 GG_ SG_ (by rfl) rfl rfl rfl (by rfl) rfl VW_ NI_ NI_ FR_ ?_) | (refine Seq.callq true (c3) Tryd.func34 GG_ SG_ (by rfl) rfl rfl rfl (by rfl) rfl VW_ NI_ NI_ FR_ ?_) | (refine VC.litF (by rfl) LFA_ ?_) | (((refine retQ_ok (by rfl) [] nil_sub ⟨?_, rfl⟩); try rfl)) | fail)
      done
end Go.Proofs.YthejnchhddggmaaDoor
