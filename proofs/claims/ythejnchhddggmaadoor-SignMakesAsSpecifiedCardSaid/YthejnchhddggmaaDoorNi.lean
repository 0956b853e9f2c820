
/- The lowest node of the tree (sign.leaf), over the values of the chains: from a seed; out of a signature. -/
import Derived.Test.YthejnchhddggmaaDoorNh
set_option linter.unusedSimpArgs false
set_option linter.unusedVariables false
namespace Go.Proofs.YthejnchhddggmaaDoor
open Go.V Go.RowKit Go.U Go.L Go.Lx Go.Sg
set_option maxRecDepth 10000
set_option maxHeartbeats 4000000
theorem zvB (W : World) : (zeroValue 54).run Tryd.prog W = .ok (.agg #[.pointer none, .slice none 0 0]) W := by kernel_rfl
theorem Seq.allocB {F : Fr} {ops : Array Oper} {l : List Oper} {e h g : Asc} {N : Nat} {K : St → Prop} {d : Tmp} {ty : TypeId} {pos : String} {af : Array Edge} {gd : Option (Nat × Bool)} (hP : F.P = Tryd.prog) (hw : wants ops ⟨some d, .alloc 54, ty, pos, af, gd⟩ e = some true) (hd2 : Nat.blt d F.n = true)
    (hk : ∀ b, V.Seq F ops l ⟨(d, .ptr N []) :: e, (N, bldF b) :: h, g, N + 1⟩ K) : V.Seq F ops (⟨some d, .alloc 54, ty, pos, af, gd⟩ :: l) ⟨e, h, g, N⟩ K := by
  refine V.Seq.to (fun s' => ∃ b, s' = ⟨(d, .ptr N []) :: e, (N, bldF b) :: h, g, N + 1⟩) hw ?_ fun s' hs' => ?_
  · rintro a w ⟨c, ns, rfl, hout, hen, hA, hsz, hdf, hN0, hgl⟩ K Q hK
    have hN : ¬ c.A N := fun h => by have h1 : N < N := hA N h; omega
    have hrun : (execOp a.eval ⟨some d, .alloc 54, ty, pos, af, gd⟩).run F.P c.w = .ok (.value (.pointer (some ⟨c.w.heap.size, 0, none⟩))) (c.w.alloc (.cells #[.pointer none, .slice none 0 0] 54)) := by
      rw [hP]
      simp only [execOp, Instr.alloc, Sem.run_bind, zvB, Result.andThen_ok, newVar, newRow, newObj]
      rfl
    unfold Oper.wp
    rw [hrun]
    have ho := Out.newOb (o := bObj (.pointer none) (.slice none 0 0)) hout.heap hout.ok hN
    refine hK _ _ _ ⟨c.w.heap.size, rfl⟩ ⟨c.new N (bObj (.pointer none) (.slice none 0 0)), ns ++ [N], rfl, hout.trans ho, ?_, fun i hi => ?_, by rw [put_size]; exact hsz, by rw [put_defers]; exact hdf, hN0, hgl⟩
    · exact (hen.le ho.le).cons (rep_new_ptr c N _) (by rw [hsz]; simpa [Nat.blt_eq] using hd2)
    · show i < N + 1
      rcases hi with hi | hi
      · have h1 : i < N := hA i hi
        omega
      · omega
  · obtain ⟨b, rfl⟩ := hs'
    exact hk b
/-- The first n values, one after the other. -/
def catV (V : Nat → List UInt8) (n : Nat) : List UInt8 := (List.range n).flatMap V
theorem catV_succ (V : Nat → List UInt8) (n : Nat) : catV V (n + 1) = catV V n ++ V n := by unfold catV; rw [List.range_succ, List.flatMap_append]; simp
theorem catV_length (V : Nat → List UInt8) (hV : ∀ i, (V i).length = 16) : ∀ n, (catV V n).length = 16 * n
  | 0 => rfl
  | n + 1 => by rw [catV_succ, List.length_append, catV_length V hV n, hV]; omega
def leafV (V : Nat → List UInt8) : List UInt8 := digD 1 [digD 3 [catV V 68]]
theorem leafV_length (V : Nat → List UInt8) : (leafV V).length = 16 := digD_length _ _
def valN (seed : List UInt8) (k : Int) (c : Nat) : List UInt8 := advN k c 0 3 (startD seed k c)
theorem valN_length (seed : List UInt8) (k : Int) (c : Nat) : (valN seed k c).length = 16 := advN_length _ _ _ _ (startD_length _ _ _) _
abbrev capN (seed : List UInt8) (k : Int) : AV := .pair (.rptr false (.int .i64 k)) (.pair (.rptr false (.str seed)) .nul)
theorem chN_ok (seed : List UInt8) (hs : seed.length ≤ 1000000) (k : Int) (hk : I64 k) (c : Nat) (hc : c < 68) : Ok Tryd.prog 45 gK [] (.pair (.int .i64 (c : Nat)) (capN seed k)) (fun r h' => r = digA (valN seed k c) ∧ h' = []) := by
  have c1 := start_ok seed hs k c hk ⟨by omega, by omega⟩
  have c2 := adv_ok k c 0 3 (startD seed k c) (startD_length _ _ _) hk ⟨by omega, by omega⟩ (by decide)
  rw [show advN k c 0 ((3 : Int) - 0).toNat (startD seed k c) = valN seed k c from rfl] at c2
  generalize valN seed k c = Y at *
  generalize startD seed k c = X at *
  refine Ok.of_vc tt_ok Tryd.func45 rfl rfl (by show 3 ≤ _; decide) 0 (fun i av h => by cases h) fun c0 => ?_
  repeat' (first | (refine SS_ ?_) | (refine VC.drawm (id := 1) [(0, 0), (1, 0), (2, 0), (3, 0), (4, 0), (5, 28), (6, 63)] [7] (by rfl) (by kernel_rfl) (by rfl) ?_) | (refine DD_ ?_) | (refine DSeq.callq false (c1) Tryd.func28 GG_ SG_ (by rfl) (fastE (by rfl)) (fastH (by rfl)) (by rfl) rfl rfl rfl (by rfl) (by rfl) VW_ NI_ NI_ FR_ ?_) | (refine DSeq.callq false (c2) Tryd.func27 GG_ SG_ (by rfl) (fastE (by rfl)) (fastH (by rfl)) (by rfl) rfl rfl rfl (by rfl) (by rfl) VW_ NI_ NI_ FR_ ?_) | (((refine retQ_ok (by rfl) [] nil_sub ⟨?_, rfl⟩); try rfl)) | fail)
theorem leafN_ok (seed : List UInt8) (hs : seed.length ≤ 1000000) (k : Int) (hk : I64 k) : Ok Tryd.prog 38 gK [] (.pair (.fn (.func 45) .nul (capN seed k)) .nul) (fun r h' => r = digA (leafV (valN seed k)) ∧ h' = []) := by
  have cv := fun c hc => chN_ok seed hs k hk c hc
  have hVl := fun c => valN_length seed k c
  generalize valN seed k = V at *
  have hcl := catV_length V hVl
  refine Ok.of_vc tt_ok Tryd.func38 rfl rfl (by show 1 ≤ _; decide) 0 (fun i av h => by cases h) fun c0 => ?_
  repeat' (first | (refine Seq.allocB rfl (by rfl) (by rfl) (fun b => ?_)) | (first | with_reducible refine VC.seq ?_ | with_reducible refine VC.block ?_ | with_reducible refine VC.region ?_ | with_reducible refine VC.exit ?_ | with_reducible refine VC.ret ?_ | with_reducible refine VC.skip ?_ | with_reducible refine Seq.nil ?_ | with_reducible refine thenQ_n ?_ | with_reducible refine thenQ_r ?_ | with_reducible refine thenQ_e ?_ | with_reducible refine inQ_n ?_ | with_reducible refine inQ_r ?_ | with_reducible refine inQ_e ?_ | ((with_reducible refine inQ_o ?_ ?_); rfl) | (refine Seq.ev0 true tt_ok (by rfl) (by (first | exact trivial | exact u8_in _ rfl | exact u32_in _ rfl | ((with_reducible refine AllP.guard ?_); simp only [AllP, inI, fitV, maxK, inK, inbL, inb, List.append, List.cons_append, List.nil_append, true_and, and_true]; first | done | omega))) rfl rfl rfl ?_) | (refine Seq.ev true tt_ok (by rfl) (by (first | exact trivial | exact u8_in _ rfl | exact u32_in _ rfl | ((with_reducible refine AllP.guard ?_); simp only [AllP, inI, fitV, maxK, inK, inbL, inb, List.append, List.cons_append, List.nil_append, true_and, and_true]; first | done | omega))) rfl rfl rfl ?_) | (refine Seq.evn true tt_ok (by rfl) (by (first | exact trivial | exact u8_in _ rfl | exact u32_in _ rfl | ((with_reducible refine AllP.guard ?_); simp only [AllP, inI, fitV, maxK, inK, inbL, inb, List.append, List.cons_append, List.nil_append, true_and, and_true]; first | done | omega))) rfl ?_) | (refine Seq.pass (by rfl) rfl ?_)) | fail)
  refine VC.loop (fun p : Nat × Option BX => match p.2 with
    | none => ⟨[(7, .int .i64 (0 : Nat)), (3, .ptr 1 []), (2, .ptr 0 []), (0, .fn (.func 45) .nul (capN seed k))], [(1, bldF b), (0, .arr 16 1 (fun _ => .int .u8 0))], gK, 2⟩
    | some x => ⟨[(7, .int .i64 (p.1 : Nat)), (3, .ptr 1 []), (2, .ptr 0 []), (0, .fn (.func 45) .nul (capN seed k))], [(1, bldU x (catV V p.1).length), (2, bufU x), (0, .arr 16 1 (fun _ => .int .u8 0))], gK, 3⟩)
    (fun p => match p.2 with
    | none => p.1 = 0
    | some x => 1 ≤ p.1 ∧ p.1 ≤ 68 ∧ x.ok (catV V p.1)) (fun p => 68 - p.1) (0, none) rfl (Sim.less [] (by rfl) R_ R_) fun p hp => ?_
  obtain ⟨q, ox⟩ := p
  cases ox with
  | none =>
    obtain rfl : q = 0 := hp
    show VC _ _ _ ⟨[(7, .int .i64 (0 : Nat)), (3, .ptr 1 []), (2, .ptr 0 []), (0, .fn (.func 45) .nul (capN seed k))], [(1, bldF b), (0, .arr 16 1 (fun _ => .int .u8 0))], gK, 2⟩
    have c1 := cv 0 (by decide)
    have hl := hVl 0
    have c2 := writeF_ok b (V 0) (by omega) (by omega)
    have e1 : catV V 1 = V 0 := by simp [catV]
    generalize V 0 = v at *
    repeat' (first | (refine SS_ ?_) | (refine Seq.callp false (c1) Tryd.func45 gK_ok subG.refl (by rfl) (by rfl) rfl rfl rfl rfl rfl (by rfl) rfl VW_ NI_ NI_ FR_ ?_) | (refine Seq.calloE true [(0, 1)] [(1, 0), (3, 1)] (fun _ => wrT v.length) (fun x => [(1, bldU x v.length), (3, bufU x)]) 4 (c2) Tryd.func25 gK_ok subG.nil (by rfl) (by rfl) rfl rfl rfl rfl rfl (by rfl) rfl (by rfl) (by rfl) (fun _ => by rfl) VW_ NI_ R_ (noFrL_ok NI_) (fun _ => BK_) ?_) | (refine VC.litT (by rfl) LTR_ ?_) | fail)
    intro x hx
    repeat' (first | (refine SS_ ?_) | fail)
    refine ⟨(1, some x), ⟨show 1 ≤ 1 by decide, show 1 ≤ 68 by decide, show x.ok (catV V 1) by rw [e1]; exact hx.1⟩, show 68 - 1 < 68 - 0 by decide, ?_⟩
    show ∀ a w, _ → Sim _ ⟨[(7, .int .i64 (1 : Nat)), (3, .ptr 1 []), (2, .ptr 0 []), (0, .fn (.func 45) .nul (capN seed k))], [(1, bldU x (catV V 1).length), (2, bufU x), (0, .arr 16 1 (fun _ => .int .u8 0))], gK, 3⟩ a w
    rw [e1]
    exact (Sim.less [(2, 3)] (by rfl) R_ R_)
  | some x =>
    obtain ⟨h1, h2, h3⟩ : 1 ≤ q ∧ q ≤ 68 ∧ x.ok (catV V q) := hp
    show VC _ _ _ ⟨[(7, .int .i64 (q : Nat)), (3, .ptr 1 []), (2, .ptr 0 []), (0, .fn (.func 45) .nul (capN seed k))], [(1, bldU x (catV V q).length), (2, bufU x), (0, .arr 16 1 (fun _ => .int .u8 0))], gK, 3⟩
    have hL := hcl q
    by_cases hq : q < 68
    · have c1 := cv q hq
      have hl := hVl q
      have c2 := writeU_ok x (catV V q) (V q) h3 (by omega) (by omega)
      have e1 := catV_succ V q
      have e2 : (catV V q ++ V q).length = (catV V (q + 1)).length := by rw [e1]
      rw [← e1] at c2
      generalize hY : catV V (q + 1) = Y at *
      generalize catV V q = X at *
      generalize V q = v at *
      repeat' (first | (refine SS_ ?_) | (refine Seq.callp false (c1) Tryd.func45 gK_ok subG.refl (by rfl) (by rfl) rfl rfl rfl rfl rfl (by rfl) rfl VW_ NI_ NI_ FR_ ?_) | (refine Seq.calloE true [(0, 1), (1, 2)] [(1, 0), (4, 2)] (fun _ => wrT v.length) (fun x => [(1, bldU x Y.length), (4, bufU x)]) 5 (c2) Tryd.func25 gK_ok subG.nil (by rfl) (by rfl) rfl rfl rfl rfl rfl (by rfl) rfl (by rfl) (by rfl) (fun _ => by rfl) VW_ NI_ R_ (noFrL_ok NI_) (fun _ => BK_) ?_) | (refine VC.litT (by rfl) LTR_ ?_) | fail)
      intro y hy
      repeat' (first | (refine SS_ ?_) | fail)
      refine ⟨(q + 1, some y), ⟨by show 1 ≤ q + 1; omega, by show q + 1 ≤ 68; omega, by show y.ok (catV V (q + 1)); rw [hY]; exact hy.1⟩, by show 68 - (q + 1) < 68 - q; omega, ?_⟩
      show ∀ a w, _ → Sim _ ⟨[(7, .int .i64 ((q + 1 : Nat) : Int)), (3, .ptr 1 []), (2, .ptr 0 []), (0, .fn (.func 45) .nul (capN seed k))], [(1, bldU y (catV V (q + 1)).length), (2, bufU y), (0, .arr 16 1 (fun _ => .int .u8 0))], gK, 3⟩ a w
      rw [hY]
      exact (Sim.less [(2, 4)] (by rfl) R_ R_)
    · obtain rfl : q = 68 := by omega
      have c1 := string_ok x (catV V 68) h3 (by omega)
      have c2 := ofD_ok 3 [catV V 68] (by decide) (by simp) (by have := parts1_len (catV V 68); omega)
      have hK : (digD 3 [catV V 68]).length = 16 := digD_length _ _
      have c3 := ofD_ok 1 [digD 3 [catV V 68]] (by decide) (by simp) (by have := parts1_len (digD 3 [catV V 68]); omega)
      unfold leafV
      generalize digD 1 [digD 3 [catV V 68]] = Z at *
      generalize digD 3 [catV V 68] = Y at *
      generalize catV V 68 = X at *
      repeat' (first | (refine SS_ ?_) | (refine Seq.callo false [(0, 1), (1, 2)] [] (.str X) ([]) 3 (c1) Tryd.func29 gK_ok subG.nil (by rfl) (by rfl) rfl rfl rfl rfl rfl (by rfl) rfl (by rfl) (by rfl) (by rfl) (by rfl) VW_ NI_ R_ (noFrL_ok NI_) BK_ ?_) | (refine Seq.str (Y) tt_ok (by rfl) (by rfl) (by rfl) (by rfl) (by rfl) (by (first | exact trivial | exact u8_in _ rfl | exact u32_in _ rfl | ((with_reducible refine AllP.guard ?_); simp only [AllP, inI, fitV, maxK, inK, inbL, inb, List.append, List.cons_append, List.nil_append, true_and, and_true]; first | done | omega))) (by rfl) (.inl rfl) (by rfl) rfl (hK) (fun i hi => by first | exact rfl | simp only [Nat.zero_add]) ?_) | (refine Seq.callq true (c2) Tryd.func34 GG_ SG_ (by rfl) rfl rfl rfl (by rfl) rfl VW_ NI_ NI_ FR_ ?_) | (refine Seq.callq true (c3) Tryd.func34 GG_ SG_ (by rfl) rfl rfl rfl (by rfl) rfl VW_ NI_ NI_ FR_ ?_) | (refine VC.litF (by rfl) LFA_ ?_) | (((refine retQ_ok (by rfl) [] nil_sub ⟨?_, rfl⟩); try rfl)) | fail)
      done
end Go.Proofs.YthejnchhddggmaaDoor
