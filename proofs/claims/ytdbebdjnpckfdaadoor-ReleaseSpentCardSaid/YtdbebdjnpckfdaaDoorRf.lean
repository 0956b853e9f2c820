/- Fractions: the reference's. Budgets: the plain law. Budgets: what panics, what catches it. Budgets: the small functions. -/
import Derived.Test.YtdbebdjnpckfdaaDoorRb
import Derived.Test.YtdbebdjnpckfdaaDoorNb
import Derived.Test.YtdbebdjnpckfdaaDoorRa
set_option linter.unusedSimpArgs false
set_option linter.unusedVariables false
namespace Go.Rt
end Go.Rt
namespace Go.Proofs.YtdbebdjnpckfdaaDoor
open Go.V Go.RowKit Go.L Go.Lx Go.Rt
set_option maxRecDepth 10000
set_option maxHeartbeats 4000000
end Go.Proofs.YtdbebdjnpckfdaaDoor

namespace Go.Bg
open Go.Rt Go.Lx
/-- An account: its limit, what is used of it. -/
structure Acc where
  L : Rq
  U : Rq
abbrev accZ : Acc := ⟨rz, rz⟩
structure Bk where
  A : List Acc
  O : List Acc
  W : List Int
  R : List Bool
def isCost (r : Rq) : Bool := valid r && decide (0 ≤ r.P)
def accs (l : List Rq) : List Acc := l.map fun r => ⟨r, rz⟩
def newE (p : List Rq) (w : List Int) (o : List Rq) : Int :=
  if 256 < p.length ∨ 16 < o.length then 4
  else if w.length ≠ p.length ∨ (w.any fun x => decide (x < 0 ∨ (o.length : Int) ≤ x)) = true ∨ (p.any fun r => !isCost r) = true ∨ (o.any fun r => !isCost r) = true then 1 else 0
def newB (p : List Rq) (w : List Int) (o : List Rq) : Bk := ⟨accs p, accs o, w, List.replicate p.length false⟩
/-- The error of one who is asked. -/
def kn (b : Bk) (before : List Int) (p : Int) : Int := if p < 0 ∨ (b.A.length : Int) ≤ p then 6 else if p ∈ before then 7 else if b.R.getD p.toNat false = true then 24 else 0
def knL (b : Bk) (l : List Int) : Nat → Nat → Int
  | _, 0 => 0
  | k, n + 1 => if kn b (l.take k) (l.getD k 0) ≠ 0 then kn b (l.take k) (l.getD k 0) else knL b l (k + 1) n
/-- The error of those who are asked. -/
def knE (b : Bk) (l : List Int) : Int := knL b l 0 l.length
/-- An account that is charged. -/
def acE (a : Acc) (c : Rq) : Int := addE a.U c
def acV (a : Acc) (c : Rq) : Acc := ⟨a.L, addV a.U c⟩
def acO (a : Acc) (c : Rq) : Bool := decide (0 < cmpR (addV a.U c) a.L)
structure Ch where
  e : Int
  A : List Acc
  ov : Bool
/-- A charge of the accounts in some places, one after the other; it ends at an error. -/
def chg (A : List Acc) (ov : Bool) (c : Rq) : List Int → Ch
  | [] => ⟨0, A, ov⟩
  | p :: r => if acE (A.getD p.toNat accZ) c ≠ 0 then ⟨acE (A.getD p.toNat accZ) c, A, ov⟩ else chg (A.set p.toNat (acV (A.getD p.toNat accZ) c)) (ov || acO (A.getD p.toNat accZ) c) c r
/-- How many of those who are asked have an owner. -/
def cnt (W : List Int) (l : List Int) (o : Nat) : Nat := (l.filter fun p => decide (W.getD p.toNat 0 = (o : Int))).length
def shr (c : Rq) (k n : Nat) : Rq := mulV c (mkV k n)
def shrE (c : Rq) (k n : Nat) : Int := mulE c (mkV k n)
/-- A charge of the owners from o on. -/
def chO (W : List Int) (l : List Int) (c : Rq) : Nat → Nat → List Acc → Bool → Ch
  | _, 0, A, ov => ⟨0, A, ov⟩
  | o, n + 1, A, ov =>
    if cnt W l o = 0 then chO W l c (o + 1) n A ov
    else if shrE c (cnt W l o) l.length ≠ 0 then ⟨shrE c (cnt W l o) l.length, A, ov⟩
    else if acE (A.getD o accZ) (shr c (cnt W l o) l.length) ≠ 0 then ⟨acE (A.getD o accZ) (shr c (cnt W l o) l.length), A, ov⟩
    else chO W l c (o + 1) n (A.set o (acV (A.getD o accZ) (shr c (cnt W l o) l.length))) (ov || acO (A.getD o accZ) (shr c (cnt W l o) l.length))
def askP (b : Bk) (l : List Int) (c : Rq) : Ch := chg b.A false c l
def askO (b : Bk) (l : List Int) (c : Rq) : Ch := chO b.W l c 0 b.O.length b.O (askP b l c).ov
def askE (b : Bk) (l : List Int) (c : Rq) : Int :=
  if l = [] ∨ isCost c = false then 1 else if knE b l ≠ 0 then knE b l else if (askP b l c).e ≠ 0 then (askP b l c).e else if (askO b l c).e ≠ 0 then (askO b l c).e else if (askO b l c).ov = true then 22 else 0
def askB (b : Bk) (l : List Int) (c : Rq) : Bk := if askE b l c = 0 then ⟨(askP b l c).A, (askO b l c).A, b.W, b.R⟩ else b
def usE (l : List Acc) (i : Int) : Int := if i < 0 ∨ (l.length : Int) ≤ i then 6 else 0
def usV (l : List Acc) (i : Int) : Rq := if i < 0 ∨ (l.length : Int) ≤ i then rz else (l.getD i.toNat accZ).U
/-- What accounts are always. -/
structure AOk (a : Acc) : Prop where
  l : valid a.L = true ∧ 0 ≤ a.L.P
  u : valid a.U = true ∧ 0 ≤ a.U.P
structure BOk (b : Bk) : Prop where
  na : b.A.length ≤ 256
  no : b.O.length ≤ 16
  a : ∀ x ∈ b.A, AOk x
  o : ∀ x ∈ b.O, AOk x
  w : b.W.length = b.A.length ∧ ∀ x ∈ b.W, 0 ≤ x ∧ x < b.O.length
  r : b.R.length = b.A.length
theorem cost_iff {r : Rq} : isCost r = true ↔ valid r = true ∧ 0 ≤ r.P := by
  unfold isCost; rw [Bool.and_eq_true, decide_eq_true_eq]
theorem accs_len (l : List Rq) : (accs l).length = l.length := List.length_map _
theorem valid_r64 {r : Rq} (h : valid r = true) : R64 r := by
  have hb := valid_b h
  refine ⟨⟨by omega, by omega⟩, ?_⟩
  rcases valid_iff.1 h with rfl | h
  · exact ⟨by decide, by decide⟩
  · exact ⟨by omega, by omega⟩
theorem mkV_nn {p q : Int} (hp : 0 ≤ p) (hq : 0 < q) (h : mkErr p q = 0) : 0 ≤ (mkV p q).P := by
  rw [show mkV p q = _ from if_pos h]
  show 0 ≤ (if (decide (p < 0) != decide (q < 0)) = true then -(Rt.absI p / gI (Rt.absI p) (Rt.absI q)) else Rt.absI p / gI (Rt.absI p) (Rt.absI q))
  rw [if_neg (by simp; omega)]
  exact Int.ediv_nonneg (absI_nn _) (gI_nn _ _)
/-- Sums of costs are costs. -/
theorem add_cost {a c : Rq} (ha : valid a = true ∧ 0 ≤ a.P) (hc : valid c = true ∧ 0 ≤ c.P) (h : addE a c = 0) : valid (addV a c) = true ∧ 0 ≤ (addV a c).P := by
  have hb : both a c = true := by unfold both; rw [ha.1, hc.1]; rfl
  unfold addE at h
  rw [if_pos hb] at h
  have hv : addV a c = mkV (addP a c) (addQ a c) := if_pos hb
  rw [hv]
  obtain ⟨⟨a1, a2⟩, _⟩ := valid_b ha.1
  obtain ⟨⟨c1, c2⟩, _⟩ := valid_b hc.1
  obtain ⟨f1, f2, f3⟩ := add_fit ha.1 hc.1
  obtain ⟨g1, g2, g3, g4⟩ := add_bd ha.1 hc.1
  have hq0 : addQ a c ≠ 0 := fun e => by unfold mkErr at h; rw [if_pos e] at h; cases h
  have hq : 0 < addQ a c := by omega
  refine ⟨mkV_valid hq h, ?_⟩
  have hp : 0 ≤ addP a c := by
    unfold addP
    have := Int.mul_nonneg ha.2 f1.1
    have := Int.mul_nonneg hc.2 f2.1
    omega
  exact mkV_nn hp hq h
theorem mul_cost {a c : Rq} (ha : valid a = true ∧ 0 ≤ a.P) (hc : valid c = true ∧ 0 ≤ c.P) (h : mulE a c = 0) : valid (mulV a c) = true ∧ 0 ≤ (mulV a c).P := by
  have hb : both a c = true := by unfold both; rw [ha.1, hc.1]; rfl
  unfold mulE at h
  rw [if_pos hb] at h
  rw [show mulV a c = mkV (a.P * c.P) (den a * den c) from if_pos hb]
  obtain ⟨⟨a1, a2⟩, _⟩ := valid_b ha.1
  obtain ⟨⟨c1, c2⟩, _⟩ := valid_b hc.1
  have hq : 0 < den a * den c := Int.mul_pos (by omega) (by omega)
  refine ⟨mkV_valid hq h, ?_⟩
  have hp : 0 ≤ a.P * c.P := Int.mul_nonneg ha.2 hc.2
  exact mkV_nn hp hq h
theorem mk_small {k n : Nat} (h1 : 0 < k) (h2 : k ≤ n) (h3 : n ≤ 256) : mkErr k n = 0 ∧ valid (mkV k n) = true ∧ 0 ≤ (mkV k n).P := by
  have hk : Rt.absI (k : Int) = k := if_neg (by omega)
  have hn : Rt.absI (n : Int) = n := if_neg (by omega)
  have hg := gI_pos (x := (k : Int)) (y := (n : Int)) (.inl (by omega))
  have d1 := div_le (a := (k : Int)) (g := gI k n) (by omega) hg
  have d2 := div_le (a := (n : Int)) (g := gI k n) (by omega) hg
  have he : mkErr k n = 0 := by
    unfold mkErr
    rw [if_neg (by omega), hk, hn, if_neg (by omega)]
  exact ⟨he, mkV_valid (by omega) he, mkV_nn (by omega) (by omega) he⟩
theorem cnt_le (W l : List Int) (o : Nat) : cnt W l o ≤ l.length := List.length_filter_le _ _
end Go.Bg

namespace Go.Proofs.YtdbebdjnpckfdaaDoor
open Go.V Go.RowKit Go.L Go.Lx Go.Rt Go.Bg
set_option maxRecDepth 10000
set_option maxHeartbeats 4000000
abbrev tE : TypeId := 39
abbrev errV (e : Int) : Value := .iface tE (.int .i64 e)
theorem must_ok (r : Rq) : Ok Tryd.prog 45 [] [] (.pair (ratA r) (.pair (.int .i64 0) .nul)) (fun v h' => v = ratA r ∧ h' = []) := by
  refine Ok.of_vcC tt_ok Tryd.func45 rfl rfl (by show 2 ≤ _; decide) 0 (hlt_ok (by rfl)) fun c0 => ?_
  repeat' (first | (refine SS_ ?_) | (refine VC.litF (by rfl) LFA_ ?_) | fail)
  refine retC_mk [(4, .ptr 1 [])] [(1, ratA r)] 2 (Sim.less [] (by rfl) R_ R_) (retQ_ok (by rfl) [] nil_sub ⟨rfl, rfl⟩)
theorem must_pan (r : Rq) (e : Int) (he : e ≠ 0) : OkP Tryd.prog 45 [] [] (.pair (ratA r) (.pair (.int .i64 e) .nul)) (errV e) [] := by
  refine OkP.of_vc Tryd.func45 rfl rfl (by show 2 ≤ _; decide) 0 (hlt_ok (by rfl)) fun c0 => ?_
  repeat' (first | (refine VC.regionX 2 (by rfl) ?_) | (first | with_reducible refine VC.seq ?_ | with_reducible refine VC.block ?_ | with_reducible refine VC.region ?_ | with_reducible refine VC.exit ?_ | with_reducible refine VC.ret ?_ | with_reducible refine VC.skip ?_ | with_reducible refine Seq.nil ?_ | with_reducible refine thenQ_n ?_ | with_reducible refine thenQ_r ?_ | with_reducible refine thenQ_e ?_ | with_reducible refine inQ_n ?_ | with_reducible refine inQ_r ?_ | with_reducible refine inQ_e ?_ | ((with_reducible refine inQ_o ?_ ?_); rfl) | (refine Seq.ev0 true tt_ok (by rfl) (by (first | exact trivial | exact u8_in _ rfl | exact u32_in _ rfl | ((with_reducible refine AllP.guard ?_); simp only [AllP, inI, fitV, maxK, inK, inbL, inb, List.append, List.cons_append, List.nil_append, true_and, and_true]; first | done | omega))) rfl rfl rfl ?_) | (refine Seq.ev true tt_ok (by rfl) (by (first | exact trivial | exact u8_in _ rfl | exact u32_in _ rfl | ((with_reducible refine AllP.guard ?_); simp only [AllP, inI, fitV, maxK, inK, inbL, inb, List.append, List.cons_append, List.nil_append, true_and, and_true]; first | done | omega))) rfl rfl rfl ?_) | (refine Seq.evn true tt_ok (by rfl) (by (first | exact trivial | exact u8_in _ rfl | exact u32_in _ rfl | ((with_reducible refine AllP.guard ?_); simp only [AllP, inI, fitV, maxK, inK, inbL, inb, List.append, List.cons_append, List.nil_append, true_and, and_true]; first | done | omega))) rfl ?_) | (refine Seq.pass (by rfl) rfl ?_)) | (refine VC.litT (by rfl) LTR_ ?_) | fail)
  refine PanTo.panic (by rfl) (by rfl) ?_
  exact panQ_mk [] [] 2 (Sim.less [] (by rfl) R_ R_) (fun i av h => by cases h)
theorem eqIn_nn {P : Program} {t : TypeId} (w : World) {m : Array (String × TypeId)} (h1 : P.underlying t = some (.interface m)) : (Op.equal t .nilIface .nilIface).run P w = .ok true w := by
  have hd : ∀ d : Nat, (Op.equalIn (d + 1) t .nilIface .nilIface).run P w = .ok true w := fun d => by simp [Op.equalIn, run_underlying h1]
  exact hd 9999
theorem nilnil_run {P : Program} {t : TypeId} (w : World) {m : Array (String × TypeId)} (h1 : P.underlying t = some (.interface m)) (a : Act) {x : Operand} (hx : a.eval x = .nilIface) (yt : TypeId) (d : Option Tmp) (ty : TypeId) (pos : String) (af : Array Edge) (gd : Option (Nat × Bool)) :
    (execOp a.eval ⟨d, .binOp .eql t x (.const .nilIface) yt, ty, pos, af, gd⟩).run P w = .ok (.value (.bool true)) w := by
  have e1 : (eqGuard .eql t x (.const .nilIface) .nilIface .nilIface).run P w = .ok () w := by simp [eqGuard]
  have e2 : (binOp .eql t .nilIface .nilIface).run P w = .ok (.bool true) w := by simp [binOp, eqIn_nn w h1]
  have h2 : a.eval (.const .nilIface) = .nilIface := rfl
  simp only [execOp, hx, h2, Sem.run_bind, e1, Result.andThen_ok, e2, Sem.run_pure]
theorem caught_ok : Catches Tryd.prog 42 tE := by
  refine catches_mk Tryd.func42 rfl (fun v w => rfl) (fun tmps w => ⟨.tuple #[], by simp [results]⟩) (by decide) (by decide) (fun a w hs ht hd => ?_) fun c0 h N id k' n' n hget => ?_
  · refine wp_block (wp_seq (wp_region_lit ?_))
    refine wpList_step fun K' hK' => ?_
    rw [if_pos (by rfl)]
    unfold Oper.wp
    have ht : a.eval (.tmp 5) = .nilIface := ht
    rw [nilnil_run w (x := .tmp 5) ?h1 a ht]
    case h1 => exact rfl
    refine hK' _ _ ?_
    have hc : (a.put (some 7) (.bool true)).eval (.tmp 7) = .bool true := by
      show (a.tmps.setIfInBounds 7 (.bool true)).getD 7 undef = _
      rw [Array.getD_eq_getD_getElem?, Array.getElem?_setIfInBounds_self_of_lt (by rw [hs]; decide)]; rfl
    refine wp_cond hc ?_
    refine wp_region_lit (wpList_step fun K'' hK'' => ?_)
    rw [if_pos (by rfl)]
    unfold Oper.wp
    refine hK'' _ _ ?_
    exact ⟨.inl rfl, hd, rfl⟩
  · repeat' (first | (refine Seq.val (ifcnil_ok tt_ok (by rfl) (by rfl) (by rfl)) (by rfl) (by rfl) ?_) | (refine Seq.val (assert2_ok tt_ok (by rfl) (by rfl) (by rfl)) (by rfl) (by rfl) ?_) | (refine Seq.effG (store_ptr (by exact tt_ok _ _ (by rfl)) (by rfl) (by rfl) hget (by rfl) (by trivial) (by rfl) (by rfl) (by rfl) (by rfl)) (by rfl) ?_) | (first | with_reducible refine VC.seq ?_ | with_reducible refine VC.block ?_ | with_reducible refine VC.region ?_ | with_reducible refine VC.exit ?_ | with_reducible refine VC.ret ?_ | with_reducible refine VC.skip ?_ | with_reducible refine Seq.nil ?_ | with_reducible refine thenQ_n ?_ | with_reducible refine thenQ_r ?_ | with_reducible refine thenQ_e ?_ | with_reducible refine inQ_n ?_ | with_reducible refine inQ_r ?_ | with_reducible refine inQ_e ?_ | ((with_reducible refine inQ_o ?_ ?_); rfl) | (refine Seq.ev0 true tt_ok (by rfl) (by (first | exact trivial | exact u8_in _ rfl | exact u32_in _ rfl | ((with_reducible refine AllP.guard ?_); simp only [AllP, inI, fitV, maxK, inK, inbL, inb, List.append, List.cons_append, List.nil_append, true_and, and_true]; first | done | omega))) rfl rfl rfl ?_) | (refine Seq.ev true tt_ok (by rfl) (by (first | exact trivial | exact u8_in _ rfl | exact u32_in _ rfl | ((with_reducible refine AllP.guard ?_); simp only [AllP, inI, fitV, maxK, inK, inbL, inb, List.append, List.cons_append, List.nil_append, true_and, and_true]; first | done | omega))) rfl rfl rfl ?_) | (refine Seq.evn true tt_ok (by rfl) (by (first | exact trivial | exact u8_in _ rfl | exact u32_in _ rfl | ((with_reducible refine AllP.guard ?_); simp only [AllP, inI, fitV, maxK, inK, inbL, inb, List.append, List.cons_append, List.nil_append, true_and, and_true]; first | done | omega))) rfl ?_) | (refine Seq.pass (by rfl) rfl ?_)) | (refine VC.litT (by rfl) LTR_ ?_) | (refine VC.litF (by rfl) LFA_ ?_) | fail)
    exact ⟨.inl rfl, rfl, rfl⟩
end Go.Proofs.YtdbebdjnpckfdaaDoor

namespace Go.Proofs.YtdbebdjnpckfdaaDoor
open Go.V Go.RowKit Go.L Go.Lx Go.Rt Go.Bg
set_option maxRecDepth 10000
set_option maxHeartbeats 4000000
abbrev rlV (l : List Rq) : AV := .rsl false l.length 2 (fun i => ratA (l.getD i rz))
abbrev accA (a : Acc) : AV := .pair (ratA a.L) (.pair (ratA a.U) .nul)
abbrev acsO (l : List Acc) : AV := .arr l.length 4 (fun i => accA (l.getD i accZ))
abbrev boO (l : List Bool) : AV := .arr l.length 1 (fun i => .bool (l.getD i false))
theorem isCost_ok (r : Rq) (hr : R64 r) : Ok Tryd.prog 20 [] [] (.pair (ratA r) .nul) (fun v h' => v = .bool (isCost r) ∧ h' = []) := by
  have c1 := qvalid_ok r hr
  unfold isCost
  by_cases h : valid r = true
  · rw [h] at c1 ⊢
    refine Ok.of_vcC tt_ok Tryd.func20 rfl rfl (by show 1 ≤ _; decide) 0 (hlt_ok (by rfl)) fun c0 => ?_
    repeat' (first | (refine SS_ ?_) | (refine Seq.callp false (c1) Tryd.func38 GOk.nil subG.nil (by rfl) (by rfl) rfl rfl rfl rfl rfl (by rfl) rfl VW_ NI_ NI_ FR_ ?_) | fail)
    (refine retC_mk ([(2, .bool (decide (0 ≤ r.P)))]) ([]) 0 (Sim.less [] (by rfl) R_ R_) (retQ_ok (by rfl) ([]) (fun i av h => h) ⟨?_, ?_⟩)) <;> rfl
  · rw [Bool.not_eq_true] at h
    rw [h] at c1 ⊢
    refine Ok.of_vcC tt_ok Tryd.func20 rfl rfl (by show 1 ≤ _; decide) 0 (hlt_ok (by rfl)) fun c0 => ?_
    repeat' (first | (refine SS_ ?_) | (refine Seq.callp false (c1) Tryd.func38 GOk.nil subG.nil (by rfl) (by rfl) rfl rfl rfl rfl rfl (by rfl) rfl VW_ NI_ NI_ FR_ ?_) | fail)
    (refine retC_mk ([(2, .bool false)]) ([]) 0 (Sim.less [] (by rfl) R_ R_) (retQ_ok (by rfl) ([]) (fun i av h => h) ⟨?_, ?_⟩)) <;> rfl
theorem accs_step {l : List Rq} {k : Nat} (hk : k < l.length) : accs (l.take (k + 1)) = accs (l.take k) ++ [⟨l.getD k rz, rz⟩] := by
  unfold accs
  rw [take_snoc (d := rz) hk, List.map_append]; rfl
theorem accs_tlen {l : List Rq} {k : Nat} (hk : k ≤ l.length) : (accs (l.take k)).length = k := by
  rw [accs_len, List.length_take]; omega
theorem accounts_ok (l : List Rq) (hl : l.length ≤ 256) : Ok Tryd.prog 24 [] [] (.pair (rlV l) .nul) (fun r h' => r = .sl 0 [] 4 0 l.length ∧ h' = [(0, acsO (accs l))]) := by
  refine Ok.of_vcC tt_ok Tryd.func24 rfl rfl (by show 1 ≤ _; decide) 0 (hlt_ok (by rfl)) fun c0 => ?_
  repeat' (first | (refine SS_ ?_) | fail)
  refine VC.conv (Sim.ghost 3 4 (fun i => accA (([] : List Acc).getD i accZ)) (by rfl) (.inl rfl)) ?_
  refine VC.loop (fun k : Nat => ⟨[(8, .int .i64 (k : Nat)), (7, .int .i64 l.length), (6, rlV l), (3, .sl 0 [] 4 0 (accs (l.take k)).length)], [(0, acsO (accs (l.take k)))], [], 1⟩) (fun k => k ≤ l.length) (fun k => l.length - k) 0 (by omega) (by
    (refine Sim.less [] (by rfl) ?_ ?_ <;> (repeat' (first | (exact EnvLe.nil) | (exact HeapLe.nil) | (with_reducible apply EnvLe.cons) | (with_reducible apply HeapLe.cons) | ((with_reducible refine RelA.int ?_; first | (refine Keep.mk ?_; first | with_reducible rfl | omega | decide) | skip)) | (exact rfl) | (exact ⟨rfl, rfl⟩) | ((with_reducible refine RelA.rsl ?_; intro i hi)) | (with_reducible refine RelA.pair ?_ ?_) | ((refine RelA.arr ?_; intro i hi)) | fail)) <;> (try with_reducible refine Keep.mk ?_))
    all_goals exact rfl) fun k hk => ?_
  have hn := accs_tlen hk
  by_cases hkl : k < l.length
  · have hst := accs_step hkl
    have hn1 := accs_tlen (l := l) (k := k + 1) hkl
    have hget : l.getD ((k : Nat) : Int).toNat rz = l.getD k rz := by rw [Int.toNat_natCast]
    rw [← hget] at hst
    generalize hx : l.getD ((k : Nat) : Int).toNat rz = x at *
    generalize hT : accs (l.take (k + 1)) = o2 at *
    generalize accs (l.take k) = o at *
    repeat' (first | (refine SS_ ?_) | (refine VC.litT (by rfl) LTR_ ?_) | fail)
    refine ⟨k + 1, by omega, by omega, ?_⟩
    rw [hT, hst]
    show ∀ a_1 w, _ → Sim _ ⟨[(8, .int .i64 ((k + 1 : Nat) : Int)), (7, .int .i64 l.length), (6, rlV l), (3, .sl 0 [] 4 0 (o ++ [(⟨x, rz⟩ : Acc)]).length)], [(0, .arr (o ++ [(⟨x, rz⟩ : Acc)]).length 4 (fun i => accA ((o ++ [(⟨x, rz⟩ : Acc)]).getD i accZ)))], [], 1⟩ a_1 w
    rw [List.length_append, List.length_singleton]
    (refine Sim.less [(0, 3)] (by rfl) ?_ ?_ <;> (repeat' (first | (exact EnvLe.nil) | (exact HeapLe.nil) | (with_reducible apply EnvLe.cons) | (with_reducible apply HeapLe.cons) | ((with_reducible refine RelA.int ?_; first | (refine Keep.mk ?_; first | with_reducible rfl | omega | decide) | skip)) | (exact rfl) | (exact ⟨rfl, rfl⟩) | ((with_reducible refine RelA.rsl ?_; intro i hi)) | (with_reducible refine RelA.pair ?_ ?_) | ((refine RelA.arr ?_; intro i hi)) | fail)) <;> (try with_reducible refine Keep.mk ?_))
    exact rel_snocG (G := accA) (fun e => NI_) hi (by rw [← hx]; rfl)
  · obtain rfl : k = l.length := by omega
    have ht : l.take l.length = l := List.take_of_length_le (by omega)
    rw [ht] at hn
    repeat' (first | (refine SS_ ?_) | (refine VC.litF (by rfl) LFA_ ?_) | fail)
    rw [ht, hn]
    (refine retC_mk ([(2, .sl 0 [] 4 0 l.length)]) ([(0, acsO (accs l))]) 1 (Sim.less [] (by rfl) R_ R_) (retQ_ok (by rfl) ([(0, acsO (accs l))]) (fun i av h => h) ⟨?_, ?_⟩)) <;> rfl
theorem cloneI_ok (l : List Int) (hl : l.length ≤ 1048576) : Ok Tryd.prog 25 [] [] (.pair (liV l) .nul) (fun r h' => r = .sl 0 [] 1 0 l.length ∧ h' = [(0, liO l)]) := by
  refine Ok.of_vcC tt_ok Tryd.func25 rfl rfl (by show 1 ≤ _; decide) 0 (hlt_ok (by rfl)) fun c0 => ?_
  repeat' (first | (refine SS_ ?_) | (refine Seq.slnilx tt_ok (by rfl) (by rfl) (by rfl) (by rfl) (by rfl) (by rfl) (by rfl) (fun hz => ?_) ?_) | (refine VC.litT (by rfl) LTR_ ?_) | (refine VC.litF (by rfl) LFA_ ?_) | fail)
  · refine retC_mk [(2, .sl 0 [] 1 0 l.length)] [(0, liO l)] 1 (fun a w h => (?_ : ∀ a w, Sim _ _ a w → Sim _ _ a w) a w (Sim.ghost 2 1 (fun i => .int .i64 (l.getD i 0)) (by rfl) (.inl rfl) a w h)) (retQ_ok (by rfl) [(0, liO l)] (fun i av h => h) ⟨?_, ?_⟩)
    · rw [hz]
      exact (Sim.less [] (by rfl) R_ R_)
    · rfl
    · rfl
  · (refine retC_mk ([(2, .sl 0 [] 1 0 l.length)]) ([(0, liO l)]) 1 (Sim.less [] (by rfl) R_ R_) (retQ_ok (by rfl) ([(0, liO l)]) (fun i av h => h) ⟨?_, ?_⟩)) <;> rfl
theorem cloneJ_ok (l : List Int) (hl : l.length ≤ 1048576) : Ok Tryd.prog 25 [] [(1, liO l)] (.pair (.sl 1 [] 1 0 l.length) .nul) (fun r h' => r = .sl 9 [] 1 0 l.length ∧ h' = [(9, liO l), (1, liO l)]) := by
  refine Ok.of_vcC tt_ok Tryd.func25 rfl rfl (by show 1 ≤ _; decide) 9 (hlt_ok (by rfl)) fun c0 => ?_
  repeat' (first | (refine SS_ ?_) | (refine Seq.slnilx tt_ok (by rfl) (by rfl) (by rfl) (by rfl) (by rfl) (by rfl) (by rfl) (fun hz => ?_) ?_) | (refine VC.litT (by rfl) LTR_ ?_) | (refine VC.litF (by rfl) LFA_ ?_) | fail)
  · refine retC_conv' (Sim.ghost 2 1 (fun i => .int .i64 (l.getD i 0)) (by rfl) (.inl rfl)) ?_
    refine retC_mk [(2, .sl 9 [] 1 0 l.length)] [(9, liO l), (1, liO l)] 10 ?_ (retQ_ok (by rfl) [(9, liO l), (1, liO l)] (fun i av h => h) ⟨rfl, rfl⟩)
    rw [hz]
    exact (Sim.less [] (by rfl) R_ R_)
  · refine retC_mk ([(2, .sl 9 [] 1 0 l.length)]) ([(9, liO l), (1, liO l)]) 10 ?_ (retQ_ok (by rfl) ([(9, liO l), (1, liO l)]) (fun i av h => h) ⟨?_, ?_⟩)
    · (refine Sim.less [] (by rfl) ?_ ?_ <;> (repeat' (first | (exact EnvLe.nil) | (exact HeapLe.nil) | (with_reducible apply EnvLe.cons) | (with_reducible apply HeapLe.cons) | ((with_reducible refine RelA.int ?_; first | (refine Keep.mk ?_; first | with_reducible rfl | omega | decide) | skip)) | (exact rfl) | (exact ⟨rfl, rfl⟩) | ((with_reducible refine RelA.arr ?_; intro i hi)) | ((refine RelA.arr ?_; intro i hi)) | fail)) <;> (try with_reducible refine Keep.mk ?_))
      all_goals first | (rw [Nat.zero_add]; done) | (rw [Nat.zero_add]; exact NoId.self NI_)
    · rfl
    · rfl
theorem cloneB_ok (l : List Bool) (hl : l.length ≤ 1048576) : Ok Tryd.prog 27 [] [(1, boO l)] (.pair (.sl 1 [] 1 0 l.length) .nul) (fun r h' => r = .sl 9 [] 1 0 l.length ∧ h' = [(9, boO l), (1, boO l)]) := by
  refine Ok.of_vcC tt_ok Tryd.func27 rfl rfl (by show 1 ≤ _; decide) 9 (hlt_ok (by rfl)) fun c0 => ?_
  repeat' (first | (refine SS_ ?_) | (refine Seq.slnilx tt_ok (by rfl) (by rfl) (by rfl) (by rfl) (by rfl) (by rfl) (by rfl) (fun hz => ?_) ?_) | (refine VC.litT (by rfl) LTR_ ?_) | (refine VC.litF (by rfl) LFA_ ?_) | fail)
  · refine retC_conv' (Sim.ghost 2 1 (fun i => .bool (l.getD i false)) (by rfl) (.inl rfl)) ?_
    refine retC_mk [(2, .sl 9 [] 1 0 l.length)] [(9, boO l), (1, boO l)] 10 ?_ (retQ_ok (by rfl) [(9, boO l), (1, boO l)] (fun i av h => h) ⟨rfl, rfl⟩)
    rw [hz]
    exact (Sim.less [] (by rfl) R_ R_)
  · refine retC_mk ([(2, .sl 9 [] 1 0 l.length)]) ([(9, boO l), (1, boO l)]) 10 ?_ (retQ_ok (by rfl) ([(9, boO l), (1, boO l)]) (fun i av h => h) ⟨?_, ?_⟩)
    · (refine Sim.less [] (by rfl) ?_ ?_ <;> (repeat' (first | (exact EnvLe.nil) | (exact HeapLe.nil) | (with_reducible apply EnvLe.cons) | (with_reducible apply HeapLe.cons) | (exact rfl) | (exact ⟨rfl, rfl⟩) | ((with_reducible refine RelA.arr ?_; intro i hi)) | ((refine RelA.arr ?_; intro i hi)) | fail)) <;> (try with_reducible refine Keep.mk ?_))
      all_goals first | (rw [Nat.zero_add]; done) | (rw [Nat.zero_add]; exact NoId.self NI_)
    · rfl
    · rfl
theorem cloneA_ok (l : List Acc) (hl : l.length ≤ 256) : Ok Tryd.prog 26 [] [(1, acsO l)] (.pair (.sl 1 [] 4 0 l.length) .nul) (fun r h' => r = .sl 9 [] 4 0 l.length ∧ h' = [(9, acsO l), (1, acsO l)]) := by
  refine Ok.of_vcC tt_ok Tryd.func26 rfl rfl (by show 1 ≤ _; decide) 9 (hlt_ok (by rfl)) fun c0 => ?_
  repeat' (first | (refine SS_ ?_) | (refine Seq.slnilx tt_ok (by rfl) (by rfl) (by rfl) (by rfl) (by rfl) (by rfl) (by rfl) (fun hz => ?_) ?_) | (refine VC.litT (by rfl) LTR_ ?_) | (refine VC.litF (by rfl) LFA_ ?_) | fail)
  · refine retC_conv' (Sim.ghost 2 4 (fun i => accA (l.getD i accZ)) (by rfl) (.inl rfl)) ?_
    refine retC_mk [(2, .sl 9 [] 4 0 l.length)] [(9, acsO l), (1, acsO l)] 10 ?_ (retQ_ok (by rfl) [(9, acsO l), (1, acsO l)] (fun i av h => h) ⟨rfl, rfl⟩)
    rw [hz]
    exact (Sim.less [] (by rfl) R_ R_)
  · refine retC_mk ([(2, .sl 9 [] 4 0 l.length)]) ([(9, acsO l), (1, acsO l)]) 10 ?_ (retQ_ok (by rfl) ([(9, acsO l), (1, acsO l)]) (fun i av h => h) ⟨?_, ?_⟩)
    · (refine Sim.less [] (by rfl) ?_ ?_ <;> (repeat' (first | (exact EnvLe.nil) | (exact HeapLe.nil) | (with_reducible apply EnvLe.cons) | (with_reducible apply HeapLe.cons) | ((with_reducible refine RelA.int ?_; first | (refine Keep.mk ?_; first | with_reducible rfl | omega | decide) | skip)) | (exact rfl) | (exact ⟨rfl, rfl⟩) | ((with_reducible refine RelA.arr ?_; intro i hi)) | (with_reducible refine RelA.pair ?_ ?_) | ((refine RelA.arr ?_; intro i hi)) | fail)) <;> (try with_reducible refine Keep.mk ?_))
      all_goals first | (rw [Nat.zero_add]; done) | (rw [Nat.zero_add]; exact NoId.self NI_)
    · rfl
    · rfl
abbrev n1F : AV := .fn (.func 19) .nul .nul
theorem n1_ok (r : Rq) (hr : R64 r) : Ok Tryd.prog 19 [] [] (.pair (ratA r) .nul) (fun v h' => v = .bool (!isCost r) ∧ h' = []) := by
  have c1 := isCost_ok r hr
  generalize isCost r = q at *
  refine Ok.of_vcC tt_ok Tryd.func19 rfl rfl (by show 1 ≤ _; decide) 0 (hlt_ok (by rfl)) fun c0 => ?_
  repeat' (first | (refine SS_ ?_) | (refine Seq.callp false (c1) Tryd.func20 GOk.nil subG.nil (by rfl) (by rfl) rfl rfl rfl rfl rfl (by rfl) rfl VW_ NI_ NI_ FR_ ?_) | fail)
  (refine retC_mk ([(2, .bool (!q))]) ([]) 0 (Sim.less [] (by rfl) R_ R_) (retQ_ok (by rfl) ([]) (fun i av h => h) ⟨?_, ?_⟩)) <;> rfl
theorem n2_ok (l : List Rq) (hm : l.length ≤ 16) (x : Int) : Ok Tryd.prog 22 [] [(0, rlV l)] (.pair (.int .i64 x) (.pair (.ptr 0 []) .nul)) (fun v h' => v = .bool (decide (x < 0 ∨ (l.length : Int) ≤ x)) ∧ h' = [(0, rlV l)]) := by
  by_cases h : x < 0
  · rw [decide_eq_true (Or.inl h)]
    refine Ok.of_vcC tt_ok Tryd.func22 rfl rfl (by show 2 ≤ _; decide) 1 (hlt_ok (by rfl)) fun c0 => ?_
    repeat' (first | (refine SS_ ?_) | (refine Seq.lit (by rfl) (by rfl) LT2_ ?_) | fail)
    (refine retC_mk ([(3, .bool true)]) ([(0, rlV l)]) 1 (Sim.less [] (by rfl) R_ R_) (retQ_ok (by rfl) ([(0, rlV l)]) (fun i av h => h) ⟨?_, ?_⟩)) <;> rfl
  · rw [show decide (x < 0 ∨ (l.length : Int) ≤ x) = decide ((l.length : Int) ≤ x) by simp [h]]
    refine Ok.of_vcC tt_ok Tryd.func22 rfl rfl (by show 2 ≤ _; decide) 1 (hlt_ok (by rfl)) fun c0 => ?_
    repeat' (first | (refine SS_ ?_) | (refine Seq.lit (by rfl) (by rfl) LT2_ ?_) | fail)
    (refine retC_mk ([(3, .bool (decide ((l.length : Int) ≤ x)))]) ([(0, rlV l)]) 1 (Sim.less [] (by rfl) R_ R_) (retQ_ok (by rfl) ([(0, rlV l)]) (fun i av h => h) ⟨?_, ?_⟩)) <;> rfl
end Go.Proofs.YtdbebdjnpckfdaaDoor
