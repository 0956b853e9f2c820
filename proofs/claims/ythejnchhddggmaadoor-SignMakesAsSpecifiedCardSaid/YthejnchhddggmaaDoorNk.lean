
/- The tree's nodes, each once: the closure that sign.nodes gives; sign.Public. -/
import Derived.Test.YthejnchhddggmaaDoorNj
set_option linter.unusedSimpArgs false
set_option linter.unusedVariables false
namespace Go.V
open Go.RowKit Go.L
/-- A drawn region whose first tail operation is a call that turns objects, while late reads may come behind it. -/
theorem late_callE {F : Fr} {ops : Array Oper} {g e0 e1 h : Asc} {its : List It} {N : Nat} {late : List Nat} {plan : List (Nat × Nat)} {d1 : Tmp} {ty : TypeId} {pos : String} {af : Array Edge} {gd : Option (Nat × Bool)} {tops : List Oper} {K : St → Prop} {fid : FuncId} {fn : Func} {callee : Operand} {xs : Array Operand} {tys : Array TypeId} {u1 u2 ax args argsC r0 : AV} {g' hin h1 hr H2 eL hL e' : Asc} (bw : Bool) (σ τ : List (Nat × Nat)) (v : AV) (hn : Asc) (N' : Nat)
    (ct : Ok F.P fid g' hin args (fun r h' => r = r0 ∧ h' = h1)) (hf : F.P.funcs[fid]? = some fn) (hG : GOk g) (hg' : subG g' g) (hE : selEO (nrem late) e0 its some = some eL) (hH : selHO allB h its some = some hL)
    (hce : V.ev g eL callee = some (.fn (.func fid) u1 u2)) (hax : evs g eL xs.toList = some ax) (hc1 : isChain u1 = true) (hc2 : isChain ax = true) (hcat : catC u1 (catC ax u2) = argsC) (hbd : fn.body.isNone = false) (hnm : (fn.name == "runtime.NumGoroutine") = false)
    (hw : wants ops ⟨some d1, .call ⟨.value callee, xs, tys⟩, ty, pos, af, gd⟩ eL = some true) (hσ : passB σ (keys hin) = true) (hdr : dropO hL (passed σ hin) some = some hr) (hcat2 : catO hn hr some = some H2) (hfr : (Nat.ble N N' && lowB N' (keys hn)) = true)
    (hv : View hL (fun id => bw = true ∧ memB id (passed σ hin) = false) (fun i => memB i (keys hin) = true) (sg σ) args argsC) (hnf : NoFr args) (hhin : HeapLe (fun i => memB i (keys hin) = true) (sg σ) hL hin) (hnfh : ∀ i av, get? hin i = some av → NoFr av) (hback : Back bw σ τ hin N N' r0 h1 v hn)
    (hl : LateLH F.P ops g e1 H2 late plan its its) (hE2 : selEO allB e1 its some = some e') (hk : Seq F ops tops ⟨(d1, v) :: e', H2, g, N'⟩ K) :
    ∃ H2 v1 ns1 N2, OpOk F.P ⟨some d1, .call ⟨.value callee, xs, tys⟩, ty, pos, af, gd⟩ g (selE (nrem late) its ++ e0) (selH allB its ++ h) (some v1) H2 ns1 ∧ (N ≤ N2 ∧ ∀ n ∈ ns1, N ≤ n ∧ n < N2) ∧ wants ops ⟨some d1, .call ⟨.value callee, xs, tys⟩, ty, pos, af, gd⟩ (selE (nrem late) its ++ e0) = some true ∧
      (∀ it ∈ its, it.j ∈ late → LateOkH F.P ops g (selE (lateM late plan it.j) its ++ e1) H2 it) ∧ Seq F ops tops ⟨(d1, v1) :: (selE allB its ++ e1), H2, g, N2⟩ K := by
  rw [selEO_eq] at hE hE2
  rw [selHO_eq] at hH
  rw [dropO_eq] at hdr
  rw [catO_eq] at hcat2
  cases hE; cases hH; cases hE2; cases hdr; cases hcat2
  rw [Bool.and_eq_true] at hfr
  refine ⟨_, v, frK N (keys hn), N', call_detE hce hax hc1 hc2 hcat hf hbd hnm ct (hG.hand hg') bw σ τ hσ hv hnf hhin hnfh hback, ⟨Nat.le_of_ble_eq_true hfr.1, fun n hn' => ?_⟩, hw, lateLH_ok hl, hk⟩
  obtain ⟨q1, q2⟩ := frK_ok.1 hn'
  have := List.all_eq_true.1 hfr.2 n q1
  exact ⟨q2, by simpa [Nat.blt_eq] using this⟩
end Go.V
namespace Go.Sg
open Go.V
/-- What the closure keeps: nodes by level and number. -/
abbrev Mem := List ((Int × Int) × List UInt8)
theorem find_set {κ ν : Type} [DecidableEq κ] : ∀ (l : List (κ × ν)) (k j : κ) (v : ν), mFind (mSet l k v) j = if k = j then some v else mFind l j
  | [], k, j, v => by unfold mSet mFind; rfl
  | p :: r, k, j, v => by
    unfold mSet
    by_cases h : p.1 = k
    · rw [if_pos h]
      unfold mFind
      by_cases hj : k = j
      · rw [if_pos hj, if_pos hj]
      · rw [if_neg hj, if_neg hj, if_neg (fun e => hj (h ▸ e))]
    · rw [if_neg h]
      unfold mFind
      rw [find_set r k j v]
      by_cases hj : p.1 = j
      · rw [if_pos hj, if_pos hj, if_neg (fun e => h (hj.trans e.symm))]
      · rw [if_neg hj, if_neg hj]
end Go.Sg
namespace Go.Proofs.YthejnchhddggmaaDoor
open Go.V Go.RowKit Go.U Go.L Go.Lx Go.Sg
set_option maxRecDepth 10000
set_option maxHeartbeats 4000000
/-- The node with a number at a level. -/
def ndD (seed : List UInt8) : Nat → Int → List UInt8
  | 0, k => leafV (valN seed k)
  | l + 1, k => nodeD (ndD seed l (2 * k)) (ndD seed l (2 * k + 1))
theorem ndD_length (seed : List UInt8) : ∀ l k, (ndD seed l k).length = 16
  | 0, _ => leafV_length _
  | _ + 1, _ => digD_length _ _
/-- What is kept behind a call. -/
def mAt (seed : List UInt8) : Nat → Int → Mem → Mem
  | 0, k, m => match mFind m (0, k) with
    | some _ => m
    | none => mSet m (0, k) (ndD seed 0 k)
  | l + 1, k, m => match mFind m (((l + 1 : Nat) : Int), k) with
    | some _ => m
    | none => mSet (mAt seed l (2 * k + 1) (mAt seed l (2 * k) m)) (((l + 1 : Nat) : Int), k) (ndD seed (l + 1) k)
/-- What is kept is right. -/
def MOk (seed : List UInt8) (m : Mem) : Prop := ∀ (l : Nat) (k : Int) v, mFind m ((l : Int), k) = some v → v = ndD seed l k
theorem mset_ok {seed : List UInt8} {m : Mem} (h : MOk seed m) (l : Nat) (k : Int) : MOk seed (mSet m ((l : Int), k) (ndD seed l k)) := by
  intro l' k' v hv
  rw [find_set] at hv
  split at hv
  · rename_i e
    injection e with e1 e2
    have : l = l' := by omega
    subst this e2
    injection hv with hv
    exact hv.symm
  · exact h l' k' v hv
theorem mAt_ok {seed : List UInt8} : ∀ (l : Nat) (k : Int) (m : Mem), MOk seed m → MOk seed (mAt seed l k m)
  | 0, k, m, h => by
    unfold mAt
    split
    · exact h
    · exact mset_ok h 0 k
  | l + 1, k, m, h => by
    unfold mAt
    split
    · exact h
    · exact mset_ok (mAt_ok l _ _ (mAt_ok l _ _ h)) (l + 1) k
theorem kI2_ok : KeyK Tryd.prog 28 KI2 kI2 := by
  obtain ⟨j, hj, hs⟩ := Option.map_eq_some_iff.1 (show (Tryd.prog.info? 3).map (·.size) = some 1 by kernel_rfl)
  exact key_int2 (et := 3) (by kernel_rfl) (by kernel_rfl) hj hs
theorem u_mem : Tryd.prog.underlying 73 = some (.map 28 23) := by kernel_rfl
abbrev memA (m : Mem) : AV := moL KI2 digA ((0, 0), ([] : List UInt8)) m
abbrev atF (seed : List UInt8) (i j : Nat) : AV := .fn (.func 44) .nul (.pair (.ptr i []) (.pair (.rptr false (.str seed)) (.pair (.ptr j []) .nul)))
/-- Its objects: the map's variable, the map, its own variable. -/
abbrev nH (seed : List UInt8) (m : Mem) : Asc := [(0, .mp 1), (1, memA m), (2, atF seed 0 2)]
theorem at0_ok (seed : List UInt8) (hs : seed.length ≤ 1000000) (k : Int) (hk : 0 ≤ k ∧ k ≤ 1000) (m : Mem) (hm : MOk seed m) : Ok Tryd.prog 44 gK (nH seed m) (.pair (.int .i64 0) (.pair (.int .i64 k) (.pair (.ptr 0 []) (.pair (.rptr false (.str seed)) (.pair (.ptr 2 []) .nul))))) (fun r h' => r = digA (ndD seed 0 k) ∧ h' = nH seed (mAt seed 0 k m)) := by
  cases hf : mFind m (0, k) with
  | some v =>
    have e1 : v = ndD seed 0 k := hm 0 k v hf
    have e2 : mAt seed 0 k m = m := by unfold mAt; rw [hf]
    rw [e2, ← e1]
    clear e1
    refine Ok.of_vcC tt_ok Tryd.func44 rfl rfl (by show 5 ≤ _; decide) 3 (hlt_ok (by rfl)) fun c0 => ?_
    repeat' (first | (refine SS_ ?_) | (refine Seq.val (look2S_ok (K := KI2) (V := digA) (l := m) (k := (0, k)) (u := v) tt_ok (by rfl) u_mem kI2_ok (by rfl) (by rfl) (by rfl) (by rfl) hf) (by rfl) (by rfl) ?_) | (refine VC.litT (by rfl) LTR_ ?_) | fail)
    exact retC_mk [(7, .ptr 4 [])] ((4, digA v) :: nH seed m) 6 (Sim.less [] (by rfl) R_ R_) (retQ_ok (by rfl) (nH seed m) (subL_ok ⟨rfl, rfl, rfl, trivial⟩) ⟨rfl, rfl⟩)
  | none =>
    have c1 := leafN_ok seed hs k ⟨by omega, by omega⟩
    have e1 : ndD seed 0 k = leafV (valN seed k) := rfl
    have e2 : mAt seed 0 k m = mSet m (0, k) (ndD seed 0 k) := by unfold mAt; rw [hf]
    rw [e2, e1]
    generalize leafV (valN seed k) = X at *
    refine Ok.of_vcC tt_ok Tryd.func44 rfl rfl (by show 5 ≤ _; decide) 3 (hlt_ok (by rfl)) fun c0 => ?_
    repeat' (first | (refine SS_ ?_) | (refine Seq.val (look2N_ok (K := KI2) (V := digA) (l := m) (k := (0, k)) (z0 := .arr 16 1 (fun _ => .int .u8 0)) tt_ok (by rfl) u_mem kI2_ok (by rfl) (by rfl) (by rfl) (by rfl) hf rfl) (by rfl) (by rfl) ?_) | (refine Seq.callp true (c1) Tryd.func38 gK_ok subG.refl (by rfl) (by rfl) rfl rfl rfl rfl rfl (by rfl) rfl VW_ NI_ NI_ FR_ ?_) | (refine Seq.eff (mapUpdate_ok (K := KI2) (V := digA) (u := X) (l := m) (k := (0, k)) u_mem kI2_ok (by rfl) (by rfl) (by rfl) (by rfl)) (by rfl) (by rfl) ?_) | (refine VC.litT (by rfl) LTR_ ?_) | (refine VC.litF (by rfl) LFA_ ?_) | fail)
    exact retC_mk [(7, .ptr 4 [])] ((4, digA X) :: nH seed (mSet m (0, k) X)) 7 (Sim.less [] (by rfl) R_ R_) (retQ_ok (by rfl) (nH seed (mSet m (0, k) X)) (subL_ok ⟨rfl, rfl, rfl, trivial⟩) ⟨rfl, rfl⟩)
theorem atS_ok (seed : List UInt8) (hs : seed.length ≤ 1000000) (l : Nat) (hl : l ≤ 10) (k : Int) (hk : 0 ≤ k ∧ k ≤ 1000) (m : Mem) (hm : MOk seed m)
    (ih1 : Ok Tryd.prog 44 gK (nH seed m) (.pair (.int .i64 (l : Nat)) (.pair (.int .i64 (2 * k)) (.pair (.ptr 0 []) (.pair (.rptr false (.str seed)) (.pair (.ptr 2 []) .nul))))) (fun r h' => r = digA (ndD seed l (2 * k)) ∧ h' = nH seed (mAt seed l (2 * k) m)))
    (ih2 : Ok Tryd.prog 44 gK (nH seed (mAt seed l (2 * k) m)) (.pair (.int .i64 (l : Nat)) (.pair (.int .i64 (2 * k + 1)) (.pair (.ptr 0 []) (.pair (.rptr false (.str seed)) (.pair (.ptr 2 []) .nul))))) (fun r h' => r = digA (ndD seed l (2 * k + 1)) ∧ h' = nH seed (mAt seed l (2 * k + 1) (mAt seed l (2 * k) m)))) :
    Ok Tryd.prog 44 gK (nH seed m) (.pair (.int .i64 ((l + 1 : Nat) : Int)) (.pair (.int .i64 k) (.pair (.ptr 0 []) (.pair (.rptr false (.str seed)) (.pair (.ptr 2 []) .nul))))) (fun r h' => r = digA (ndD seed (l + 1) k) ∧ h' = nH seed (mAt seed (l + 1) k m)) := by
  cases hf : mFind m (((l + 1 : Nat) : Int), k) with
  | some v =>
    have e1 : v = ndD seed (l + 1) k := hm (l + 1) k v hf
    have e2 : mAt seed (l + 1) k m = m := by unfold mAt; rw [hf]
    rw [e2, ← e1]
    clear e1 ih1 ih2
    refine Ok.of_vcC tt_ok Tryd.func44 rfl rfl (by show 5 ≤ _; decide) 3 (hlt_ok (by rfl)) fun c0 => ?_
    repeat' (first | (refine SS_ ?_) | (refine Seq.val (look2S_ok (K := KI2) (V := digA) (l := m) (k := (((l + 1 : Nat) : Int), k)) (u := v) tt_ok (by rfl) u_mem kI2_ok (by rfl) (by rfl) (by rfl) (by rfl) hf) (by rfl) (by rfl) ?_) | (refine VC.litT (by rfl) LTR_ ?_) | fail)
    exact retC_mk [(7, .ptr 4 [])] ((4, digA v) :: nH seed m) 6 (Sim.less [] (by rfl) R_ R_) (retQ_ok (by rfl) (nH seed m) (subL_ok ⟨rfl, rfl, rfl, trivial⟩) ⟨rfl, rfl⟩)
  | none =>
    have e2 : mAt seed (l + 1) k m = mSet (mAt seed l (2 * k + 1) (mAt seed l (2 * k) m)) (((l + 1 : Nat) : Int), k) (ndD seed (l + 1) k) := by rw [mAt, hf]
    have e1 : ndD seed (l + 1) k = nodeD (ndD seed l (2 * k)) (ndD seed l (2 * k + 1)) := rfl
    have c3 := snode_ok (ndD seed l (2 * k)) (ndD seed l (2 * k + 1)) (ndD_length _ _ _) (ndD_length _ _ _)
    rw [← e1] at c3
    rw [e2]
    generalize ndD seed (l + 1) k = Z at *
    generalize ndD seed l (2 * k) = X at *
    generalize ndD seed l (2 * k + 1) = Y at *
    generalize mAt seed l (2 * k + 1) (mAt seed l (2 * k) m) = m2 at *
    generalize mAt seed l (2 * k) m = m1 at *
    refine Ok.of_vcC tt_ok Tryd.func44 rfl rfl (by show 5 ≤ _; decide) 3 (hlt_ok (by rfl)) fun c0 => ?_
    repeat' (first | (refine SS_ ?_) | (refine Seq.val (look2N_ok (K := KI2) (V := digA) (l := m) (k := (((l + 1 : Nat) : Int), k)) (z0 := .arr 16 1 (fun _ => .int .u8 0)) tt_ok (by rfl) u_mem kI2_ok (by rfl) (by rfl) (by rfl) (by rfl) hf rfl) (by rfl) (by rfl) ?_) | (refine VC.litF (by rfl) LFA_ ?_) | fail)
    have e3 : ((l + 1 : Nat) : Int) - 1 = (l : Nat) := by omega
    refine VC.drawE (id := 7) [(0, 0), (1, 0), (2, 2), (3, 0), (4, 8), (6, 0), (7, 0), (8, 128), (9, 0), (10, 512), (11, 1536)] [6, 7, 8, 9, 10, 11] 5 30 [12, 13, 14] (by rfl) (by kernel_rfl) (by rfl) (by rfl) (by rfl) (by rfl) ?_
    repeat' (first | (refine DD_ ?_) | fail)
    refine DSeq.nil (late_callE false [] [] (digA X) (nH seed m1) 7 (ih1) Tryd.func44 gK_ok subG.refl (by rfl) (by rfl) (by rfl) (by rfl) rfl rfl rfl rfl rfl (by rfl) (by rfl) (by rfl) (by rfl) (by rfl) VW_ NI_ R_ (noFrL_ok NI_) BK_ (by repeat (first | exact trivial | refine ⟨trivial, ?_⟩ | refine ⟨lateX (by rfl) (late_evH true tt_ok (by rfl) (by rfl) (by rfl) (by rfl) (by (first | exact trivial | exact u8_in _ rfl | exact u32_in _ rfl | ((with_reducible refine AllP.guard ?_); simp only [AllP, inI, fitV, maxK, inK, inbL, inb, List.append, List.cons_append, List.nil_append, true_and, and_true]; first | done | omega)))), ?_⟩)) (by rfl) ?_)
    repeat' (first | (refine SS_ ?_) | (refine Seq.callo false [] [] (digA Y) (nH seed m2) 7 (ih2) Tryd.func44 gK_ok subG.refl (by rfl) (by rfl) rfl rfl rfl rfl rfl (by rfl) rfl (by rfl) (by rfl) (by rfl) (by rfl) VW_ NI_ R_ (noFrL_ok NI_) BK_ ?_) | (refine Seq.eff (mapUpdate_ok (K := KI2) (V := digA) (u := Z) (l := m2) (k := (((l + 1 : Nat) : Int), k)) u_mem kI2_ok (by rfl) (by rfl) (by rfl) (by rfl)) (by rfl) (by rfl) ?_) | (refine Seq.callq false (c3) Tryd.func40 GG_ SG_ (by rfl) rfl rfl rfl (by rfl) rfl VW_ NI_ NI_ FR_ ?_) | fail)
    exact retC_mk [(7, .ptr 4 [])] ((4, digA Z) :: nH seed (mSet m2 (((l + 1 : Nat) : Int), k) Z)) 7 (Sim.less [] (by rfl) R_ R_) (retQ_ok (by rfl) (nH seed (mSet m2 (((l + 1 : Nat) : Int), k) Z)) (subL_ok ⟨rfl, rfl, rfl, trivial⟩) ⟨rfl, rfl⟩)
theorem at_okN (seed : List UInt8) (hs : seed.length ≤ 1000000) : ∀ (l : Nat), l ≤ 6 → ∀ (k : Int), 0 ≤ k ∧ (k + 1) * 2 ^ l ≤ 128 → ∀ (m : Mem), MOk seed m →
    Ok Tryd.prog 44 gK (nH seed m) (.pair (.int .i64 (l : Nat)) (.pair (.int .i64 k) (.pair (.ptr 0 []) (.pair (.rptr false (.str seed)) (.pair (.ptr 2 []) .nul))))) (fun r h' => r = digA (ndD seed l k) ∧ h' = nH seed (mAt seed l k m))
  | 0, _, k, hk, m, hm => at0_ok seed hs k (by omega) m hm
  | l + 1, hl, k, hk, m, hm => by
    have hp : (1 : Int) ≤ 2 ^ l := by exact_mod_cast Nat.one_le_two_pow
    have e : (k + 1) * 2 ^ (l + 1) = (2 * k + 1 + 1) * 2 ^ l := by
      rw [Int.pow_succ, Int.mul_comm (2 ^ l) 2, ← Int.mul_assoc]
      congr 1; omega
    have h2 : (2 * k + 1 + 1) * 2 ^ l ≤ 128 := by rw [← e]; exact hk.2
    have h3 : (2 * k + 1) * 2 ^ l ≤ (2 * k + 1 + 1) * 2 ^ l := Int.mul_le_mul_of_nonneg_right (by omega) (by omega)
    have h1 : k ≤ 1000 := by
      have : (2 * k + 1 + 1) * 1 ≤ (2 * k + 1 + 1) * 2 ^ l := Int.mul_le_mul_of_nonneg_left hp (by omega)
      omega
    exact atS_ok seed hs l (by omega) k ⟨hk.1, h1⟩ m hm (at_okN seed hs l (by omega) (2 * k) ⟨by omega, by omega⟩ m hm) (at_okN seed hs l (by omega) (2 * k + 1) ⟨by omega, h2⟩ _ (mAt_ok l _ _ hm))
theorem nodes_ok (seed : List UInt8) : Ok Tryd.prog 22 [] [] (.pair (.str seed) .nul) (fun r h' => r = atF seed 0 2 ∧ h' = nH seed []) := by
  refine Ok.of_vcC tt_ok Tryd.func22 rfl rfl (by show 1 ≤ _; decide) 0 (hlt_ok (by rfl)) fun c0 => ?_
  repeat' (first | (refine Seq.new1 (makeMap_ok (ks := fun i => KI2 (([] : Mem).getD i ((0, 0), [])).1) (vs := fun i => digA (([] : Mem).getD i ((0, 0), [])).2)) (by rfl) (by rfl) ?_) | (first | with_reducible refine VC.seq ?_ | with_reducible refine VC.block ?_ | with_reducible refine VC.region ?_ | with_reducible refine VC.exit ?_ | with_reducible refine VC.ret ?_ | with_reducible refine VC.skip ?_ | with_reducible refine Seq.nil ?_ | with_reducible refine thenQ_n ?_ | with_reducible refine thenQ_r ?_ | with_reducible refine thenQ_e ?_ | with_reducible refine inQ_n ?_ | with_reducible refine inQ_r ?_ | with_reducible refine inQ_e ?_ | ((with_reducible refine inQ_o ?_ ?_); rfl) | (refine Seq.ev0 true tt_ok (by rfl) (by (first | exact trivial | exact u8_in _ rfl | exact u32_in _ rfl | ((with_reducible refine AllP.guard ?_); simp only [AllP, inI, fitV, maxK, inK, inbL, inb, List.append, List.cons_append, List.nil_append, true_and, and_true]; first | done | omega))) rfl rfl rfl ?_) | (refine Seq.ev true tt_ok (by rfl) (by (first | exact trivial | exact u8_in _ rfl | exact u32_in _ rfl | ((with_reducible refine AllP.guard ?_); simp only [AllP, inI, fitV, maxK, inK, inbL, inb, List.append, List.cons_append, List.nil_append, true_and, and_true]; first | done | omega))) rfl rfl rfl ?_) | (refine Seq.evn true tt_ok (by rfl) (by (first | exact trivial | exact u8_in _ rfl | exact u32_in _ rfl | ((with_reducible refine AllP.guard ?_); simp only [AllP, inI, fitV, maxK, inK, inbL, inb, List.append, List.cons_append, List.nil_append, true_and, and_true]; first | done | omega))) rfl ?_) | (refine Seq.pass (by rfl) rfl ?_)) | fail)
  refine retC_conv' (s' := ⟨[(2, .fn (.func 44) .nul (.pair (.ptr 0 []) (.pair (.ptr 4 []) (.pair (.ptr 2 []) .nul))))], [(2, .fn (.func 44) .nul (.pair (.ptr 0 []) (.pair (.ptr 4 []) (.pair (.ptr 2 []) .nul)))), (0, .mp 1), (1, memA []), (4, .str seed)], [], 5⟩) (Sim.less [(0, 2), (2, 3), (4, 0)] (by rfl) R_ R_) ?_
  have hv : ∀ {D : Nat → Prop}, ViewN [(2, .fn (.func 44) .nul (.pair (.ptr 0 []) (.pair (.ptr 4 []) (.pair (.ptr 2 []) .nul)))), (0, .mp 1), (1, memA []), (4, .str seed)] (fun i => memB i [4] = true) D (.rptr false (.str seed)) (.ptr 4 []) := fun {D} => .ptr (by rfl) (by rfl) trivial rfl rfl (.rel rfl)
  refine retC_conv' (Sim.stillN (e' := [(2, atF seed 0 2)]) (h' := nH seed []) [4] (by rfl) (HeapN.cons (by rfl) (.rel R_) (by rfl) (HeapN.cons (by rfl) (.rel R_) (by rfl) (HeapN.cons (by rfl) (.fn (.rel R_) (.pair (.rel R_) (.pair hv (.pair (.rel R_) (.rel R_))))) (by rfl) HeapN.nil))) (EnvN.cons (by rfl) (.fn (.rel R_) (.pair (.rel R_) (.pair hv (.pair (.rel R_) (.rel R_))))) EnvN.nil)) ?_
  (refine retC_mk ([(2, atF seed 0 2)]) (nH seed []) 5 (Sim.less [] (by rfl) R_ R_) (retQ_ok (by rfl) (nH seed []) (fun i av h => h) ⟨?_, ?_⟩)) <;> rfl
/-- Its objects with a caller's numbers. -/
abbrev nHi (seed : List UInt8) (m : Mem) (i j k : Nat) : Asc := [(i, .mp j), (j, memA m), (k, atF seed i k)]
theorem public_ok (seed : List UInt8) (h : Int) (hs : seed.length ≤ 1000000) : Ok Tryd.prog 12 gK [] (.pair (.str seed) (.pair (.int .i64 h) .nul)) (fun r h' => r = (if seed.length = 32 ∧ 0 ≤ h ∧ h ≤ 6 then .tup (.pair (digA (ndD seed h.toNat 0)) (.pair (.int .i64 0) .nul)) else .tup (.pair (.arr 16 1 (fun _ => .int .u8 0)) (.pair (.int .i64 1) .nul))) ∧ h' = []) := by
  have cv := svalid_ok h
  by_cases hh : seed.length = 32 ∧ 0 ≤ h ∧ h ≤ 6
  · rw [if_pos hh]
    obtain ⟨h0, h1, h2⟩ := hh
    rw [decide_eq_true ⟨h1, h2⟩] at cv
    obtain ⟨n, rfl⟩ : ∃ n : Nat, h = n := ⟨h.toNat, by omega⟩
    have c1 := nodes_ok seed
    have hp : ((0 : Int) + 1) * 2 ^ n ≤ 128 := by
      have : (2 : Nat) ^ n ≤ 2 ^ 6 := Nat.pow_le_pow_right (by decide) (by omega)
      have e : ((2 ^ n : Nat) : Int) = 2 ^ n := by exact_mod_cast rfl
      omega
    have c2 := at_okN seed hs n (by omega) 0 ⟨by omega, hp⟩ [] (fun _ _ _ h => by cases h)
    rw [Int.toNat_natCast]
    generalize ndD seed n 0 = X at *
    generalize mAt seed n 0 [] = m2 at *
    refine Ok.of_vc tt_ok Tryd.func12 rfl rfl (by show 2 ≤ _; decide) 0 (fun i av h => by cases h) fun c0 => ?_
    repeat' (first | (refine SS_ ?_) | (refine Seq.callo false [] [(1, 0), (2, 1), (3, 2)] (atF seed 1 3) (nHi seed [] 1 2 3) 4 (c1) Tryd.func22 gK_ok subG.nil (by rfl) (by rfl) rfl rfl rfl rfl rfl (by rfl) rfl (by rfl) (by rfl) (by rfl) (by rfl) VW_ NI_ R_ (noFrL_ok NI_) BK_ ?_) | (refine Seq.callo false [(0, 1), (1, 2), (2, 3)] [(1, 0), (2, 1), (3, 2)] (digA X) (nHi seed m2 1 2 3) 4 (c2) Tryd.func44 gK_ok subG.refl (by rfl) (by rfl) rfl rfl rfl rfl rfl (by rfl) rfl (by rfl) (by rfl) (by rfl) (by rfl) VW_ NI_ R_ (noFrL_ok NI_) BK_ ?_) | (refine Seq.lit (by rfl) (by rfl) LT2_ ?_) | (refine Seq.callq false (cv) Tryd.func21 GG_ SG_ (by rfl) rfl rfl rfl (by rfl) rfl VW_ NI_ NI_ FR_ ?_) | (refine VC.litF (by rfl) LFA_ ?_) | (((refine retQ_ok (by rfl) [] nil_sub ⟨?_, rfl⟩); try rfl)) | fail)
  · rw [if_neg hh]
    by_cases h0 : seed.length = 32
    · rw [decide_eq_false (fun e => hh ⟨h0, e⟩)] at cv
      clear hh
      refine Ok.of_vc tt_ok Tryd.func12 rfl rfl (by show 2 ≤ _; decide) 0 (fun i av h => by cases h) fun c0 => ?_
      repeat' (first | (refine SS_ ?_) | (refine Seq.lit (by rfl) (by rfl) LT2_ ?_) | (refine Seq.callq false (cv) Tryd.func21 GG_ SG_ (by rfl) rfl rfl rfl (by rfl) rfl VW_ NI_ NI_ FR_ ?_) | (refine VC.litT (by rfl) LTR_ ?_) | (((refine retQ_ok (by rfl) [] nil_sub ⟨?_, rfl⟩); try rfl)) | fail)
    · clear hh
      refine Ok.of_vc tt_ok Tryd.func12 rfl rfl (by show 2 ≤ _; decide) 0 (fun i av h => by cases h) fun c0 => ?_
      repeat' (first | (refine SS_ ?_) | (refine Seq.lit (by rfl) (by rfl) LT2_ ?_) | (refine VC.litT (by rfl) LTR_ ?_) | (((refine retQ_ok (by rfl) [] nil_sub ⟨?_, rfl⟩); try rfl)) | fail)
end Go.Proofs.YthejnchhddggmaaDoor
