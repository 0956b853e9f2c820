/- Calls that panic, and functions that defer a call. -/
import Derived.Test.YtdbebdjnpckfdaaDoorFo
import Derived.Defers
import Derived.Recover
set_option linter.unusedSimpArgs false
set_option linter.unusedVariables false
namespace Go.V
open Go.RowKit Go.L
abbrev pan (v : Value) : List PanicEntry := [{ v := v, recovered := false }]
/-- A call that panics. -/
def OkP (P : Program) (f : FuncId) (g h : Asc) (args : AV) (pv : Value) (h1 : Asc) : Prop := OkE (fun _ => .panicked (pan pv)) P f g h args (fun r h' => r = .tup .nul ∧ h' = h1)
/-- An operation that panics. -/
def PanTo (F : Fr) (ops : Array Oper) (o : Oper) (s : St) (Q : Exit → St → Prop) : Prop :=
  wants ops o s.e = some true ∧ ∀ a w, Sim F s a w → ∀ (K : Act → World → Prop) (QC : Exit → Act → World → Prop), (∀ e s' a' w', Q e s' → Sim F s' a' w' → QC e a' w') → o.wp F.P a w K QC
theorem PanTo.conv {F : Fr} {ops : Array Oper} {o : Oper} {e h g e' h' : Asc} {N N' : Nat} {Q : Exit → St → Prop} (hc : ∀ a w, Sim F ⟨e, h, g, N⟩ a w → Sim F ⟨e', h', g, N'⟩ a w) (hw : wants ops o e = some true) (hp : PanTo F ops o ⟨e', h', g, N'⟩ Q) : PanTo F ops o ⟨e, h, g, N⟩ Q :=
  ⟨hw, fun a w hs K QC hQ => hp.2 a w (hc a w hs) K QC hQ⟩
theorem Seq.wpp {F : Fr} {ops : Array Oper} {l : List Oper} {s : St} {K : St → Prop} (h : Seq F ops l s K) {Q : Exit → Act → World → Prop} {o : Oper} {r : List Oper} (hQ : ∀ s' a w, K s' → Sim F s' a w → oList F.L.O ops Q (o :: r) a w) : (F.L.top || l.all notDef) = true → ∀ a w, Sim F s a w → oList F.L.O ops Q (l ++ o :: r) a w := by
  induction h with
  | nil hk => intro hd a w hs; exact hQ _ a w hk hs
  | step N' hw ok hn hN hdd _ ih =>
    intro hd a w hs
    show oList F.L.O ops Q (_ :: _) a w
    unfold oList
    rw [if_pos (wants_ok hs hw)]
    exact F.L.op (all_cons hd).1 (step_wp (ops := ops) ok hn hN hdd hs fun a' w' hs' => ih hQ (all_cons hd).2 a' w' hs')
  | skip hw hdd _ ih =>
    intro hd a w hs
    show oList F.L.O ops Q (_ :: _) a w
    unfold oList
    rw [if_neg (by rw [wants_ok hs hw]; simp)]
    exact ih hQ (all_cons hd).2 _ _ (skip_sim hdd hs)
  | to S' hw ok _ ih =>
    intro hd a w hs
    show oList F.L.O ops Q (_ :: _) a w
    unfold oList
    rw [if_pos (wants_ok hs hw)]
    exact F.L.op (all_cons hd).1 (ok a w hs _ _ fun s' a' w' hs' hsim => ih s' hs' hQ (all_cons hd).2 a' w' hsim)
  | conv h _ ih => intro hd a w hs; exact ih hQ hd a w (h a w hs)
/-- A region in the text's order, an operation of which panics. -/
theorem VC.regionP {F : Fr} {Q : Exit → St → Prop} {s : St} {id : Nat} {l : List Oper} (pre : List Oper) (o : Oper) (r : List Oper) (hl : l = pre ++ o :: r) (h : Seq F l.toArray pre s (fun s' => PanTo F l.toArray o s' Q)) (ht : F.L.top = true := by with_unfolding_all rfl) : VC F (.region id l.toArray false) Q s := fun a w hs QC hQ => F.L.list (by
  have h2 := h.wpp (Q := QC) (o := o) (r := r) (fun s' a' w' hp hs' => by
    unfold oList
    rw [if_pos (wants_ok hs' hp.1)]
    exact F.L.op (by rw [ht]; rfl) (hp.2 a' w' hs' _ _ hQ)) (by rw [ht]; rfl) a w hs
  rw [← hl] at h2
  exact h2)
def splitO {α : Type} : Nat → List Oper → (List Oper → Oper → List Oper → Option α) → Option α
  | 0, o :: r, k => k [] o r
  | n + 1, o :: r, k => splitO n r fun p q t => k (o :: p) q t
  | _, [], _ => none
theorem splitO_ok {α : Type} : ∀ {n : Nat} {l : List Oper} {k : List Oper → Oper → List Oper → Option α} {x : α}, splitO n l k = some x → ∃ p o r, l = p ++ o :: r ∧ k p o r = some x
  | 0, o :: r, k, x, h => ⟨[], o, r, rfl, h⟩
  | n + 1, o :: r, k, x, h => by
    obtain ⟨p, q, t, h1, h2⟩ := splitO_ok (n := n) (l := r) h
    exact ⟨o :: p, q, t, by rw [h1]; rfl, h2⟩
  | 0, [], _, _, h => by cases h
  | n + 1, [], _, _, h => by cases h
theorem VC.regionX {F : Fr} {Q : Exit → St → Prop} {s : St} {id : Nat} {l : List Oper} (k : Nat) {pre : List Oper} {o : Oper} {r : List Oper} (hl : splitO k l (fun p q t => some (p, q, t)) = some (pre, o, r)) (h : Seq F l.toArray pre s (fun s' => PanTo F l.toArray o s' Q)) (ht : F.L.top = true := by with_unfolding_all rfl) : VC F (.region id l.toArray false) Q s := by
  obtain ⟨p, q, t, h1, h2⟩ := splitO_ok hl
  simp only [Option.some.injEq, Prod.mk.injEq] at h2
  obtain ⟨rfl, rfl, rfl⟩ := h2
  exact VC.regionP _ _ _ h1 h ht
theorem PanTo.panic {F : Fr} {ops : Array Oper} {Q : Exit → St → Prop} {e h g : Asc} {N : Nat} {d : Option Tmp} {x : Operand} {ty : TypeId} {pos : String} {af : Array Edge} {gd : Option (Nat × Bool)} {t : TypeId} {k : IntKind} {n : Int} (hx : ev g e x = some (.ifc t (.int k n))) (hw : wants ops ⟨d, .panic x, ty, pos, af, gd⟩ e = some true)
    (hq : Q (.panic (pan (.iface t (.int k n)))) ⟨e, h, g, N⟩) : PanTo F ops ⟨d, .panic x, ty, pos, af, gd⟩ ⟨e, h, g, N⟩ Q := by
  refine ⟨hw, fun a w hs K QC hQ => ?_⟩
  have hs' := hs
  obtain ⟨c, ns, rfl, hout, hen, _⟩ := hs
  obtain ⟨v, h1, h2⟩ := ev_rep hen hx
  have h2 : v = .int k n := by
    have h3 : [v] = [Value.int k n] := h2
    cases h3; rfl
  have h1 : a.eval x = .iface t (.int k n) := by
    simp only [List.cons.injEq, and_true] at h1
    rw [h1, h2]
  have hrun : (execOp a.eval ⟨d, .panic x, ty, pos, af, gd⟩).run F.P c.w = .halt (.panic (.iface t (.int k n))) c.w := by
    simp only [execOp, h1]
    rfl
  unfold Oper.wp
  rw [hrun]
  exact hQ _ _ _ _ hq hs'
/-- A call that panics, in a state. -/
theorem call_pan {F : Fr} {ops : Array Oper} {Q : Exit → St → Prop} {d : Option Tmp} {ty : TypeId} {pos : String} {af : Array Edge} {gd : Option (Nat × Bool)} {e h g : Asc} {N : Nat} {fid : FuncId} {fn : Func} {callee : Operand} {xs : Array Operand} {tys : Array TypeId} {u1 u2 ax args argsC : AV} {g' hin h1 h2 : Asc} {pv : Value}
    (bw : Bool) (σ τ : List (Nat × Nat)) (hn : Asc) (N' : Nat) (ct : OkP F.P fid g' hin args pv h1) (hf : F.P.funcs[fid]? = some fn) (hG : GOk g) (hg' : subG g' g) (hce : ev g e callee = some (.fn (.func fid) u1 u2)) (hax : evs g e xs.toList = some ax) (hc1 : isChain u1 = true) (hc2 : isChain ax = true) (hcat : catC u1 (catC ax u2) = argsC)
    (hbd : fn.body.isNone = false) (hnm : (fn.name == "runtime.NumGoroutine") = false) (hw : wants ops ⟨d, .call ⟨.value callee, xs, tys⟩, ty, pos, af, gd⟩ e = some true)
    (hσ : passB σ (keys hin) = true) (hdr : dropO h (passed σ hin) some = some h2)
    (hv : View h (fun id => bw = true ∧ memB id (passed σ hin) = false) (fun i => memB i (keys hin) = true) (sg σ) args argsC) (hnf : NoFr args)
    (hhin : HeapLe (fun i => memB i (keys hin) = true) (sg σ) h hin) (hnfh : ∀ i av, get? hin i = some av → NoFr av)
    (hback : Back bw σ τ hin N N' (.tup .nul) h1 (.tup .nul) hn)
    (hq : Q (.panic (pan pv)) ⟨e, hn ++ h2, g, N'⟩) : PanTo F ops ⟨d, .call ⟨.value callee, xs, tys⟩, ty, pos, af, gd⟩ ⟨e, h, g, N⟩ Q := by
  refine ⟨hw, fun a w hs K QC hQ => ?_⟩
  obtain ⟨c, ms, rfl, hout, hen, hb, hsz, hdf, hN0, hgl⟩ := hs
  rw [dropO_eq] at hdr
  simp only [Option.some.injEq] at hdr
  subst hdr
  subst hcat
  refine call_coreE (E := fun _ => .panicked (pan pv)) (N := N) (K := fun _ w' => QC (.panic (pan pv)) a w') (S' := fun v hn1 N1 => v = .tup .nul ∧ hn1 = hn ∧ N1 = N') hce hax hc1 hc2 ct (hG.hand hg') σ bw hσ hv hnf hhin hnfh (fun r h' hR => ?_) hen hout.heap hout.ok (fun fs cs hce1 hct => ?_) (fun v hn1 N1 _ i _ hi _ hA => ?_) fun v hn1 N1 c2 x hS' hNN ho2 hx hi => ?_
  · obtain ⟨rfl, rfl⟩ := hR
    exact ⟨_, hn, τ, N', hback, rfl, rfl, rfl⟩
  · have hrun : (execOp a.eval ⟨d, .call ⟨.value callee, xs, tys⟩, ty, pos, af, gd⟩).run F.P c.w = .ok (.enter fid (fs ++ (xs.toList.map a.eval ++ cs)).toArray) c.w := by
      have hargs : (fs.toArray ++ xs.map a.eval) ++ cs.toArray = (fs ++ (xs.toList.map a.eval ++ cs)).toArray := by apply Array.ext'; simp
      simp only [execOp, resolve, hce1, Deferred.ofValue, invoke, callFunc, Sem.run_bind, Sem.run_pure, Result.andThen_ok, hargs]
      have h1 : fn.name ≠ "runtime.NumGoroutine" := by simpa using hnm
      have h2 : fn.body ≠ none := fun e => by rw [e] at hbd; cases hbd
      simp [program, Sem.run, hf, h1, h2]
    unfold Oper.wp
    rw [hrun]
    refine hct.mono fun e w' he => ?_
    obtain ⟨v, rfl, hk⟩ := he
    exact hk
  · have h1 : i < N := hb i hA
    omega
  · obtain ⟨rfl, rfl, rfl⟩ := hS'
    refine hQ _ _ _ _ hq ⟨c2, ms ++ keys hn1, rfl, hout.trans ho2, hen.le ho2.le, fun i hA => ?_, hsz, hdf, hN0, hgl⟩
    show i < N1
    rcases ho2.A i hA with h1 | h1
    · have h2 : i < N := hb i h1
      omega
    · rcases hi i (memB_ok.2 h1) with h2 | h2
      · exact h2.2
      · have h3 : i < N := hb i h2
        omega
/-- Where a function's body panics. -/
def panQ (F : Fr) (pv : Value) (h1 : Asc) (e : Exit) (s : St) : Prop := e = .panic (pan pv) ∧ ∃ s' : St, (∀ a w, Sim F s a w → Sim F s' a w) ∧ ∀ id av, get? h1 id = some av → get? s'.h id = some av
theorem panQ_mk {F : Fr} {pv : Value} {h1 e h g : Asc} {N : Nat} (e' h' : Asc) (N' : Nat) (hc : ∀ a w, Sim F ⟨e, h, g, N⟩ a w → Sim F ⟨e', h', g, N'⟩ a w) (hs : ∀ id av, get? h1 id = some av → get? h' id = some av) : panQ F pv h1 (.panic (pan pv)) ⟨e, h, g, N⟩ := ⟨rfl, ⟨e', h', g, N'⟩, hc, hs⟩
theorem Ok.start {P : Program} {fn : Func} {g h : Asc} {args : AV} (hch : isChain args = true) (hn : chainLen args ≤ fn.ntmps) (N : Nat) (hN : ∀ i av, get? h i = some av → i < N) {c : Ctx} (hg : ∀ x v, get? g x = some v → Rep c (.rptr false v) .V [.pointer (some ⟨x, 0, none⟩)]) (hh : HeapRep c h) (hc : CtxOk c) (hA : ∀ i, c.A i → ∃ av, get? h i = some av) {vs : List Value} (hvs : Rep c args .T vs) :
    Sim ⟨P, c, h, fn.ntmps, N, [], .plain P⟩ ⟨envOf args 0, h, g, N⟩ { tmps := vs.toArray ++ Array.replicate (fn.ntmps - vs.toArray.size) undef, defers := [] } c.w := by
  have hlen := chain_len hch hvs
  refine ⟨c, [], rfl, .refl hh hc, ⟨fun t v ht => ?_, hg⟩, fun i hi => ?_, ?_, rfl, fun i hi => ?_, hg⟩
  · obtain ⟨_, u, q2, q3⟩ := env_of hvs ht
    have hlt : t < vs.length := by
      rcases Nat.lt_or_ge t vs.length with h1 | h1
      · exact h1
      · rw [Nat.sub_zero, List.getElem?_eq_none h1] at q2; cases q2
    refine ⟨by simp; omega, ?_⟩
    have : (vs.toArray ++ Array.replicate (fn.ntmps - vs.toArray.size) undef).getD t undef = u := by
      rw [Nat.sub_zero, List.getElem?_eq_getElem hlt] at q2
      cases q2
      have h1 : t < vs.length + (fn.ntmps - vs.length) := by omega
      simp [h1, Array.getElem_append, hlt]
    rw [this]; exact q3
  · obtain ⟨av, hi⟩ := hA i hi; exact hN i av hi
  · simp; omega
  · obtain ⟨av, hi⟩ := hA i hi; exact hN i av hi
theorem OkP.of_vc {P : Program} {f : FuncId} {fn : Func} {code : Code} {g h h1 : Asc} {args : AV} {pv : Value} (hf : P.funcs[f]? = some fn) (hb : fn.body = some code) (hch : isChain args = true) (hn : chainLen args ≤ fn.ntmps) (N : Nat) (hN : ∀ i av, get? h i = some av → i < N)
    (hvc : ∀ c0 : Ctx, VC ⟨P, c0, h, fn.ntmps, N, [], .plain P⟩ code (panQ ⟨P, c0, h, fn.ntmps, N, [], .plain P⟩ pv h1) ⟨envOf args 0, h, g, N⟩) : OkP P f g h args pv h1 := by
  intro c hg hh hc hB hA vs hvs
  refine calls_of_wp hf hb (hvc c _ _ (Ok.start hch hn N hN hg hh hc hA hvs) _ fun e s a w hq hs => ?_)
  obtain ⟨rfl, s', h2, h3⟩ := hq
  obtain ⟨c', ns, rfl, hout, hen, _, _, hdf, _⟩ := h2 a w hs
  exact ⟨hdf, c', .tuple #[], .tup .nul, h1, ns, rfl, rfl, hout.shrink h3, ⟨[], rfl, rfl⟩, rfl, rfl⟩
/-! A region that draws its order, an operation of which panics. -/
def freeIts (its : List It) (ks : List Nat) : Bool := its.all fun it => (keys it.n).all fun i => !memB i ks
def drawXB (ops : Array Oper) (n : Nat) (plan : List (Nat × Nat)) (j m : Nat) (dead : List Nat) : Bool :=
  nodupB ((mkP plan).map (·.1)) && (((mkP plan).map (·.1)).all (fun j => Nat.blt j ops.size && (match dstOf ops j with | some d => Nat.blt d n | none => false)) && (nodupB (dstsOf ops (mkP plan)) && (Og.acyc ops && (ancM ops plan plan 0 &&
    (nodupB ((mkP plan).map (·.1) ++ j :: dead) && (((mkP plan).map (·.1) ++ j :: dead).all (fun i => Nat.blt i ops.size) && (Nat.beq ((mkP plan).map (·.1) ++ j :: dead).length ops.size && ((List.range ops.size).all (fun i => memB i ((mkP plan).map (·.1) ++ j :: dead)) &&
      (dead.all (fun q => Og.cov ops ((mkP plan).map (·.1) ++ j :: dead) ((mkP plan).map (·.1) ++ j :: dead).length q j) && (bitsL m).all fun i => memB i ((mkP plan).map (·.1)) && Og.cov ops ((mkP plan).map (·.1)) ((mkP plan).map (·.1)).length j i)))))))))
theorem filter_erase' {p : Nat → Bool} {q : Nat} : ∀ {l : List Nat}, l.Nodup → (l.erase q).filter p = (l.filter p).erase q
  | [], _ => rfl
  | a :: r, h => by
    rw [List.nodup_cons] at h
    by_cases e : a = q
    · subst e
      rw [List.erase_cons_head]
      by_cases hp : p a = true
      · rw [List.filter_cons_of_pos hp, List.erase_cons_head]
      · rw [List.filter_cons_of_neg hp, List.erase_of_not_mem fun hm => h.1 (List.mem_filter.1 hm).1]
    · rw [List.erase_cons_tail (by simpa using e)]
      by_cases hp : p a = true
      · rw [List.filter_cons_of_pos hp, List.filter_cons_of_pos hp, List.erase_cons_tail (by simpa using e), filter_erase' h.2]
      · rw [List.filter_cons_of_neg hp, List.filter_cons_of_neg hp, filter_erase' h.2]
theorem VC.drawX {F : Fr} {id : Nat} {l : List Oper} {e h g : Asc} {N : Nat} {Q : Exit → St → Prop} (plan : List (Nat × Nat)) (j m : Nat) (dead : List Nat) (hm : F.P.follows .mixedOrders = true) (hst : drawXB l.toArray F.n plan j m dead = true) {e0 : Asc} (he0 : dropO e (dstsOf l.toArray (mkP plan)) some = some e0) {o : Oper} (ho : l.toArray[j]? = some o)
    (hD : DSeq F.P l.toArray g e0 h (mkP plan) [] N [] (fun its N' _ => freeIts its (keys h) = true ∧ PanTo F l.toArray o ⟨selE (tbb m) its ++ e0, h, g, N'⟩ Q)) : VC F (.region id l.toArray true) Q ⟨e, h, g, N⟩ := by
  simp only [drawXB, Bool.and_eq_true] at hst
  obtain ⟨s1, s2, s3, s4, s6, s7, s8, s9, s10, s11, s12⟩ := hst
  intro a w hsim QC hQ
  refine F.L.any hm (Og.acyc_def s4) ?_
  obtain ⟨its, N', B', I, ⟨hfree, hpan⟩, hmap, _, hdj, hitems, hinit, hfin⟩ := drawn_core (B := []) (mkP plan) (fun _ _ h => by cases h) s1 s2 s3 s4 (ancM_ok (fun i hi => by rw [tbb_zero] at hi; cases hi) s6) he0 hD a w hsim
  have hP := nodupB_ok s1
  have hds := nodupB_ok s7
  obtain ⟨ds, hdse⟩ : ∃ ds, ds = (mkP plan).map (·.1) ++ j :: dead := ⟨_, rfl⟩
  rw [← hdse] at s7 s8 s9 s10 s11 hds
  have hjd : j ∈ ds := by rw [hdse]; exact List.mem_append_right _ List.mem_cons_self
  have hpd : ∀ i ∈ (mkP plan).map (·.1), i ∈ ds := fun i hi => by rw [hdse]; exact List.mem_append_left _ hi
  have hnp : ∀ i ∈ j :: dead, i ∉ (mkP plan).map (·.1) := fun i hi hp => by
    rw [hdse] at hds
    exact (List.nodup_append.1 hds).2.2 i hp i hi rfl
  let pl : Nat → Bool := fun i => memB i ((mkP plan).map (·.1))
  have hpl : ∀ i, pl i = true ↔ i ∈ (mkP plan).map (·.1) := fun i => memB_ok
  let J : List Nat → Act → World → Prop := fun rem a w => j ∈ rem ∧ I (rem.filter pl) a w
  have hfil : ds.filter pl = (mkP plan).map (·.1) := by
    rw [hdse, List.filter_append, List.filter_eq_self.2 fun i hi => (hpl i).2 hi, List.filter_eq_nil_iff.2 fun i hi hp => hnp i hi ((hpl i).1 hp), List.append_nil]
  have hsz0 : l.toArray.size = 0 + ds.length := by have := Nat.eq_of_beq_eq_true s9; omega
  suffices hgoal : wpAny F.P .any l.toArray QC (0 + ds.length) (Array.replicate l.toArray.size false) a { w with drawn := w.drawn + 1 } by rw [hsz0.symm] at hgoal; exact hgoal
  refine og2 (I := J) (ds := ds) hds (fun i hi => ?_) s4 (fun i hi => ?_) (fun rem hnd hsub q hq hwq hdown a w hJ => ?_) (fun a w hJ => absurd hJ.1 (by simp)) _ ds (Array.replicate l.toArray.size false) a _ rfl hds (fun i hi => hi) (by simp) (fun i hi => ?_) (fun i o ho hl => ?_) ?_
  · have := List.all_eq_true.1 s8 i hi
    simpa [Nat.blt_eq] using this
  · exact .inl (memB_ok.1 (List.all_eq_true.1 s10 i (List.mem_range.2 hi)))
  · obtain ⟨hjr, hI⟩ := hJ
    by_cases hqp : q ∈ (mkP plan).map (·.1)
    · refine wpOp_mono (fun a' w' hI' => ?_) (hitems QC (rem.filter pl) (hnd.filter _) (fun i hi => (hpl i).1 (List.mem_filter.1 hi).2) q (List.mem_filter.2 ⟨hq, (hpl q).2 hqp⟩) (fun i hw hi hr => hwq i hw (hpd i hi) (List.mem_filter.1 hr).1) (fun i k hi hir hw hk hr => hdown i k (hpd i hi) (fun hx => hir (List.mem_filter.2 ⟨hx, (hpl i).2 hi⟩)) hw (hpd k hk) (List.mem_filter.1 hr).1) a w hI)
      refine ⟨(hnd.mem_erase_iff).2 ⟨fun e => hnp j List.mem_cons_self (e ▸ hqp), hjr⟩, ?_⟩
      rw [filter_erase' hnd]; exact hI'
    · by_cases hqj : q = j
      · subst hqj
        obtain ⟨c, ns, Bx, hBx, rfl, hout, hen, hsl, hA, hsz, hdf, hN0, hgl⟩ := hfin _ _ _ hI
        have hBx0 : Bx = [] := by
          cases Bx with
          | nil => rfl
          | cons p r =>
            obtain ⟨k, v⟩ := p
            have := hBx k v (by rw [get?_cons, if_pos rfl])
            cases this
        subst hBx0
        rw [List.nil_append] at hout
        have hsim2 : Sim F ⟨selE (tbb m) its ++ e0, h, g, N'⟩ a c.w := by
          refine ⟨c, ns, rfl, hout.shrink fun i av hi => ?_, ⟨fun t v ht => ?_, hen.glob⟩, hA, hsz, hdf, hN0, hgl⟩
          · rw [get?_app, selH_out fun it hit _ hk => ?_]
            · exact hi
            · have h1 := List.all_eq_true.1 (List.all_eq_true.1 hfree it hit) i hk
              rw [memB_ok.2 (get?_keys hi)] at h1; cases h1
          · rw [get?_app] at ht
            cases hs : get? (selE (tbb m) its) t with
            | none => rw [hs] at ht; exact hen.slot t v ht
            | some u =>
              rw [hs] at ht
              simp only [Option.some_or, Option.some.injEq] at ht
              subst ht
              obtain ⟨x, hx, hxl, rfl, rfl⟩ := selE_get hs
              have h3 := List.all_eq_true.1 s12 x.j (memB_ok.1 (tbb_bits hxl))
              rw [Bool.and_eq_true] at h3
              refine hsl x hx fun hxr => ?_
              have hxr := (List.mem_filter.1 hxr).1
              exact cov_done (l := (mkP plan).map (·.1)) (rem := rem) (fun i k hi1 hi2 hw hk => hdown i k (hpd i hi1) hi2 hw (hpd k hk)) _ q x.j (fun k hk hkP => hwq k hk (hpd k hkP)) (memB_ok.1 h3.1) h3.2 hxr
        unfold wpOp
        simp only [ho]
        rw [if_pos (wants_ok hsim2 hpan.1)]
        left
        exact hpan.2 a c.w hsim2 _ QC hQ
      · exfalso
        have hqd : q ∈ dead := by
          have h1 := hsub q hq
          rw [hdse] at h1
          rcases List.mem_append.1 h1 with h1 | h1
          · exact absurd h1 hqp
          · rcases List.mem_cons.1 h1 with h1 | h1
            · exact absurd h1 hqj
            · exact h1
        exact cov_done (l := ds) (rem := rem) hdown _ q j hwq hjd (List.all_eq_true.1 s11 q hqd) hjr
  · constructor
    · intro h1
      rw [Og.repF] at h1; cases h1
    · intro h1
      exact absurd h1.1 h1.2
  · rw [Og.repF] at hl; cases hl
  · exact ⟨hjd, by rw [hfil]; exact hinit⟩
/-! A deferred call. -/
structure Behind (F F' : Fr) : Prop where
  P : F'.P = F.P
  n : F'.n = F.n
  out : (F'.c0 = F.c0 ∧ F'.h0 = F.h0) ∨ ∃ ns, Out F.c0 F.h0 F'.h0 ns F'.c0
theorem Behind.refl (F : Fr) : Behind F F := ⟨rfl, rfl, .inl ⟨rfl, rfl⟩⟩
theorem Behind.to {F F' : Fr} (h : Behind F F') {h' : Asc} {ns : List Nat} {c : Ctx} (o : Out F'.c0 F'.h0 h' ns c) : ∃ ns', Out F.c0 F.h0 h' ns' c := by
  rcases h.out with ⟨e1, e2⟩ | ⟨ms, o1⟩
  · rw [e1, e2] at o; exact ⟨ns, o⟩
  · exact ⟨ms ++ ns, o1.trans o⟩
/-- Code that may lay a deferred call. -/
def VCX (F : Fr) (x : Code) (Q : Fr → Exit → St → Prop) (s : St) : Prop := ∀ a w, Sim F s a w → ∀ QC : Exit → Act → World → Prop, (∀ F' e s' a' w', Behind F F' → Q F' e s' → Sim F' s' a' w' → QC e a' w') → F.L.W x QC a w
theorem VCX.of_vc {F : Fr} {x : Code} {Q : Fr → Exit → St → Prop} {s : St} (h : VC F x (Q F) s) : VCX F x Q s := fun a w hs QC hQ => h a w hs QC fun e s' a' w' hq hs' => hQ F e s' a' w' (.refl F) hq hs'
theorem VCX.seqV {F : Fr} {x y : Code} {Q : Fr → Exit → St → Prop} {s : St} (h : VC F x (thenQ (VCX F y Q) (Q F)) s) : VCX F (.seq x y) Q s := fun a w hs QC hQ => F.L.seq (h a w hs _ fun e s' a' w' hq hs' => by
  cases e <;> first | exact hq a' w' hs' QC hQ | exact hQ F _ _ _ _ (.refl F) hq hs')
abbrev defOf (f : FuncId) (c : Ctx) (id : Nat) : Deferred := ⟨.fn (.func f) #[], #[.pointer (some ⟨c.ρ id, 0, none⟩)]⟩
theorem VCX.defer {F : Fr} {y : Code} {Q : Fr → Exit → St → Prop} {e h g : Asc} {N rid : Nat} {fd : FuncId} {x : Operand} {tys : Array TypeId} {ty : TypeId} {pos : String} {af : Array Edge} {id : Nat} (hx : ev g e x = some (.ptr id [])) (hD : F.D = [])
    (hq : ∀ c : Ctx, c.A id → ¬ c.G id → VC ⟨F.P, c, h, F.n, N, [defOf fd c id], F.L⟩ y (Q ⟨F.P, c, h, F.n, N, [defOf fd c id], F.L⟩) ⟨e, h, g, N⟩) (ht : F.L.top = true := by with_unfolding_all rfl) :
    VCX F (.seq (.region rid #[⟨none, .defer ⟨.value (.func fd), #[x], tys⟩, ty, pos, af, none⟩] false) y) Q ⟨e, h, g, N⟩ := by
  intro a w hs QC hQ
  obtain ⟨c, ns, rfl, hout, hen, hb, hsz, hdf, hN0, hgl⟩ := hs
  obtain ⟨hA, hG, hv⟩ := ev_rep hen hx
  have hv : a.eval x = .pointer (some ⟨c.ρ id, 0, none⟩) := by simpa [pathOff] using hv
  refine F.L.seq (F.L.list (l := [_]) ?_)
  unfold oList
  rw [if_pos (by simp [Region.wanted])]
  refine F.L.op (by rw [ht]; rfl) ?_
  have hrun : (execOp a.eval ⟨none, .defer ⟨.value (.func fd), #[x], tys⟩, ty, pos, af, none⟩).run F.P c.w = .ok (.defer (defOf fd c id)) c.w := by
    have he : a.eval (.func fd) = .func (.func fd) #[] #[] := rfl
    simp [execOp, resolve, he, Deferred.ofValue, hv, defOf]
  unfold Oper.wp
  rw [hrun]
  show F.L.W y QC _ _
  refine hq c hA hG { tmps := a.tmps, defers := defOf fd c id :: a.defers } c.w ⟨c, [], rfl, .refl hout.heap hout.ok, ⟨hen.slot, hen.glob⟩, hb, hsz, ?_, fun i hi => hb i hi, fun x v hx => hen.glob x v hx⟩ QC fun e s' a' w' h1 h2 => hQ ⟨F.P, c, h, F.n, N, [defOf fd c id], F.L⟩ _ _ _ _ ⟨rfl, rfl, .inr ⟨ns, hout⟩⟩ h1 h2
  show defOf fd c id :: a.defers = _
  rw [hdf, hD]
/-- What a deferred function does that turns a panic with an error number into a result. -/
structure Catches (P : Program) (fd : FuncId) (te : TypeId) : Prop where
  inv : ∀ v w, (invoke (.fn (.func fd) #[]) #[v]).run P w = .ok (.enter fd #[v]) w
  idle : ∀ v w, CallsD P fd #[v] .returning w fun e u' w' => (∃ r, e = .returned r) ∧ u' = .returning ∧ w' = w
  hit : ∀ (c : Ctx) (h : Asc) (N id : Nat) (k' : IntKind) (n' n : Int), HeapRep c h → CtxOk c → (∀ i, c.A i → i < N) → get? h id = some (.int k' n') → ¬ c.G id →
    CallsD P fd #[.pointer (some ⟨c.ρ id, 0, none⟩)] (.panicking (pan (.iface te (.int .i64 n)))) c.w fun e u' w' => (∃ r, e = .returned r) ∧ u' = .panicking [{ v := .iface te (.int .i64 n), recovered := true }] ∧ ∃ c' ns, c'.w = w' ∧ Out c h (putL h id (.int .i64 n)) ns c' ∧ ∀ i, c'.A i → i < N
def retX (fd : FuncId) (te : TypeId) (T : List (Option TI)) (fn : Func) (R : AV → Asc → Prop) (F : Fr) (e : Exit) (s : St) : Prop :=
  (F.D = [] ∧ retC F T fn R e s) ∨ ∃ id, F.D = [defOf fd F.c0 id] ∧ F.c0.A id ∧ ¬ F.c0.G id ∧
    (retC F T fn R e s ∨ ∃ n k' n', e = .panic (pan (.iface te (.int .i64 n))) ∧ get? s.h id = some (.int k' n') ∧ retC F T fn R .ret ⟨s.e, putL s.h id (.int .i64 n), s.g, s.N⟩)
theorem Ok.of_vcX {P : Program} {T : List (Option TI)} (hT : TabOk P T) {fd : FuncId} {te : TypeId} (hct : Catches P fd te) {f : FuncId} {fn : Func} {code : Code} {g h : Asc} {args : AV} {R : AV → Asc → Prop} (hf : P.funcs[f]? = some fn) (hb : fn.body = some code) (hch : isChain args = true) (hn : chainLen args ≤ fn.ntmps) (N : Nat) (hN : ∀ i av, get? h i = some av → i < N)
    (hvc : ∀ c0 : Ctx, VCX ⟨P, c0, h, fn.ntmps, N, [], .plain P⟩ code (retX fd te T fn R) ⟨envOf args 0, h, g, N⟩) : Ok P f g h args R := by
  intro c hg hh hc hB hA vs hvs
  refine calls_of_wp_defers hf hb (hvc c _ _ (Ok.start hch hn N hN hg hh hc hA hvs) _ fun F e s a w hbh hq hs => ?_)
  have hend : ∀ (s : St) (e : Exit), retC F T fn R e s → ∀ a w, Sim F s a w → (e = .ret ∨ e = .normal) ∧ ∃ v, (results fn a.tmps).run P w = .ok v w ∧ ∃ c' v' r h' ns, Ending.returned v = .returned v' ∧ c'.w = w ∧ Out c h h' ns c' ∧ Rep c' r .V [v'] ∧ R r h' := by
    rintro s e ⟨s', h1, he, r, h', hr, hsub, hR⟩ a w hs
    obtain ⟨c', ns, rfl, hout, hen, _, _, hdf, _⟩ := h1 a w hs
    obtain ⟨v, q1, q2⟩ := res_ok hT hen hout.heap hr
    obtain ⟨ns', hout'⟩ := hbh.to hout
    refine ⟨by cases e <;> simp at he <;> simp, v, ?_, c', v, r, h', ns', rfl, rfl, hout'.shrink hsub, q2, hR⟩
    exact q1
  rcases hq with ⟨hD, hr⟩ | ⟨id, hD, hAi, hGi, hr | ⟨n, k', n', rfl, hget, hr⟩⟩
  · obtain ⟨he, v, q1, q2⟩ := hend s e hr a w hs
    obtain ⟨c', ns, rfl, hout, hen, _, _, hdf, _⟩ := hs
    have hdf : a.defers = [] := by rw [hdf, hD]
    rcases he with rfl | rfl
    · show Leaves P fn a.tmps _ a.defers .returning _
      rw [hdf]; exact ⟨v, q1, q2⟩
    · show Leaves P fn a.tmps _ a.defers .returning _
      rw [hdf]; exact ⟨v, q1, q2⟩
  · obtain ⟨he, v, q1, q2⟩ := hend s e hr a w hs
    obtain ⟨c', ns, rfl, hout, hen, _, _, hdf, _⟩ := hs
    have hdf : a.defers = [defOf fd F.c0 id] := by rw [hdf, hD]
    have hl : Leaves P fn a.tmps (fun e w' => ∃ c' v r h' ns, e = .returned v ∧ c'.w = w' ∧ Out c h h' ns c' ∧ Rep c' r .V [v] ∧ R r h') a.defers .returning c'.w := by
      rw [hdf]
      refine leaves_cons (by simp) (hct.inv _ _) ((hct.idle _ _).mono ?_)
      rintro e u' w' ⟨⟨r, rfl⟩, rfl, rfl⟩
      exact ⟨v, q1, q2⟩
    rcases he with rfl | rfl
    · exact hl
    · exact hl
  · have hs0 := hs
    obtain ⟨c1, ns, rfl, hout, hen, hbd, hsz, hdf, hN0, hgl⟩ := hs
    have hdf' : a.defers = [defOf fd F.c0 id] := by rw [hdf, hD]
    have hρ : c1.ρ id = F.c0.ρ id := hout.le.ρ id hAi
    have hG1 : ¬ c1.G id := fun hx => hGi ((hout.le.G id hAi).1 hx)
    show Leaves P fn a.tmps _ a.defers (.panicking (pan (.iface te (.int .i64 n)))) _
    rw [hdf']
    refine leaves_cons (by simp) (hct.inv _ _) ?_
    rw [← hρ]
    refine (hct.hit c1 s.h s.N id k' n' n hout.heap hout.ok hbd hget hG1).mono ?_
    rintro e u' w' ⟨⟨r, rfl⟩, rfl, c2, ns2, rfl, hout2, hA2⟩
    obtain ⟨_, v, q1, q2⟩ := hend ⟨s.e, putL s.h id (.int .i64 n), s.g, s.N⟩ .ret hr a c2.w ⟨c2, _, rfl, hout.trans hout2, hen.le hout2.le, hA2, hsz, hdf, hN0, hgl⟩
    exact ⟨v, q1, q2⟩
/-! What a deferred function that recovers needs. -/
theorem eqIn_ifc {P : Program} {t : TypeId} (w : World) (d : Nat) {m : Array (String × TypeId)} (h1 : P.underlying t = some (.interface m)) (s : TypeId) (v : Value) : (Op.equalIn (d + 1) t (.iface s v) .nilIface).run P w = .ok false w := by
  simp [Op.equalIn, run_underlying h1]
theorem ifcnil_ok {P : Program} {t yt ty : TypeId} {g e h : Asc} {x y : Operand} {d : Option Tmp} {pos : String} {af : Array Edge} {gd : Option (Nat × Bool)} {T : List (Option TI)} (hT : TabOk P T) (hk : (tget T t).map (·.kind) = some .iface) {s : TypeId} {u : AV} (hx : ev g e x = some (.ifc s u)) (hy : ev g e y = some (.val .nilIface)) :
    OpOk P ⟨d, .binOp .eql t x y yt, ty, pos, af, gd⟩ g e h (some (.bool false)) h [] := by
  cases htt : tget T t with
  | none => simp [htt] at hk
  | some ti =>
  simp only [htt, Option.map_some, Option.some.injEq] at hk
  have hu := (hT _ _ htt).und
  rw [hk] at hu
  obtain ⟨m, hu⟩ := hu
  refine OpOk.val fun c a he hh hc => ⟨.bool false, ?_, rfl⟩
  obtain ⟨v, h1, _⟩ := ev_rep he hx
  have h2 : [a.eval y] = [Value.nilIface] ∧ True := ev_rep he hy
  simp only [List.cons.injEq, and_true] at h1 h2
  have e1 : (eqGuard .eql t x y (.iface s v) .nilIface).run P c.w = .ok () c.w := by simp [eqGuard]
  have e2 : (binOp .eql t (.iface s v) .nilIface).run P c.w = .ok (.bool false) c.w := by
    have h3 : (Op.equal t (.iface s v) .nilIface).run P c.w = .ok false c.w := eqIn_ifc c.w 9999 hu s v
    simp [binOp, h3]
  simp only [execOp, h1, h2, Sem.run_bind, e1, Result.andThen_ok, e2, Sem.run_pure]
theorem assert2_ok {P : Program} {t xt ty : TypeId} {g e h : Asc} {x : Operand} {d : Option Tmp} {pos : String} {af : Array Edge} {gd : Option (Nat × Bool)} {T : List (Option TI)} (hT : TabOk P T) {k : IntKind} (hk : (tget T t).map (·.kind) = some (.int k)) {s : TypeId} {u : AV} (hx : ev g e x = some (.ifc s u)) (hs : Nat.beq s t = true) :
    OpOk P ⟨d, .typeAssert x xt t true, ty, pos, af, gd⟩ g e h (some (.tup (.pair u (.pair (.bool true) .nul)))) h [] := by
  have hs : s = t := Nat.eq_of_beq_eq_true hs
  subst hs
  cases htt : tget T s with
  | none => simp [htt] at hk
  | some ti =>
  simp only [htt, Option.map_some, Option.some.injEq] at hk
  refine OpOk.val fun c a he hh hc => ?_
  obtain ⟨v, hv, hr⟩ := ev_rep he hx
  simp only [List.cons.injEq, and_true] at hv
  have h1 := (hT _ _ htt).und
  rw [hk] at h1
  simp only [TK.fits] at h1
  refine ⟨.tuple #[v, .bool true], ?_, _, rfl, v, [.bool true], rfl, hr, _, [], rfl, rfl, rfl⟩
  simp [execOp, hv, Instr.typeAssert, run_underlying h1]
theorem Seq.effG {F : Fr} {ops : Array Oper} {l : List Oper} {e h g : Asc} {N : Nat} {K : St → Prop} {op : Op} {ty : TypeId} {pos : String} {af : Array Edge} {gd : Option (Nat × Bool)} {v : Option AV} {id : Nat} {av : AV}
    (ok : OpOk F.P ⟨none, op, ty, pos, af, gd⟩ g e h v (put h id av) []) (hw : wants ops ⟨none, op, ty, pos, af, gd⟩ e = some true)
    (hk : Seq F ops l ⟨e, putL h id av, g, N⟩ K) : Seq F ops (⟨none, op, ty, pos, af, gd⟩ :: l) ⟨e, h, g, N⟩ K :=
  Seq.step (s := ⟨e, h, g, N⟩) N hw ok (fun n hn => by cases hn) (Nat.le_refl _) rfl (Seq.conv (Sim.heap fun i => by rw [get?_putL, get?_put]) hk)
theorem frame_mode {c : Frame} {u : FrameMode} (h : c.mode = u) : c = { c with mode := u } := by rw [← h]
theorem catches_mk {P : Program} {fd : FuncId} {te : TypeId} {fn : Func} {d rid : Nat} {ty : TypeId} {pos : String} {af : Array Edge} {tys : Array TypeId} {x : Code}
    (hf : P.funcs[fd]? = some fn) (hb : fn.body = some (.seq (.region rid #[⟨some d, .call ⟨.builtin .recover, #[], tys⟩, ty, pos, af, none⟩] false) x))
    (hinv : ∀ v w, (invoke (.fn (.func fd) #[]) #[v]).run P w = .ok (.enter fd #[v]) w) (hres : ∀ tmps w, ∃ v, (results fn tmps).run P w = .ok v w) (hd : 0 < d) (hdn : d < fn.ntmps)
    (h1 : ∀ (a : Act) (w : World), a.tmps.size = fn.ntmps → a.tmps.getD d undef = .nilIface → a.defers = [] → x.wp P (fun e a' w' => (e = .normal ∨ e = .ret) ∧ a'.defers = [] ∧ w' = w) a w)
    (h2 : ∀ (c0 : Ctx) (h : Asc) (N id : Nat) (k' : IntKind) (n' n : Int), get? h id = some (.int k' n') → VC ⟨P, c0, h, fn.ntmps, N, [], .plain P⟩ x (fun e s => (e = .normal ∨ e = .ret) ∧ s.h = putL h id (.int .i64 n) ∧ s.N = N) ⟨[(0, .ptr id []), (d, .ifc te (.int .i64 n))], h, [], N⟩) : Catches P fd te where
  inv := hinv
  idle := fun v w => by
    refine callsD_of_wpS hf hb fun c₀ cs hu => wpS_seq (wpS_region ?_)
    have hrec : recoverD (c₀ :: cs) = none := by simp [recoverD, hu]
    have hrun : ∀ ev : Operand → Value, (execOp ev ⟨some d, .call ⟨.builtin .recover, #[], tys⟩, ty, pos, af, none⟩).run P w = .ok .recover w := fun ev => rfl
    have hl : List.range (#[(⟨some d, .call ⟨.builtin .recover, #[], tys⟩, ty, pos, af, none⟩ : Oper)]).size = [0] := rfl
    rw [hl]
    simp only [wpOpsS, List.getElem?_toArray, List.getElem?_cons_zero, Region.wanted, if_true, hrun, hrec, Exit.thenS]
    refine wpS_of_wp ?_
    refine Code.wp_mono ?_ (h1 _ w ?_ ?_ ?_)
    · rintro e a' w' ⟨hq, hdf, rfl⟩
      obtain ⟨r, hr⟩ := hres a'.tmps w'
      rcases hq with rfl | rfl
      · exact ⟨hdf, .returning, congrArg (· :: cs) (frame_mode hu), r, hr, ⟨r, rfl⟩, rfl, rfl⟩
      · exact ⟨hdf, .returning, congrArg (· :: cs) (frame_mode hu), r, hr, ⟨r, rfl⟩, rfl, rfl⟩
    · simp [Act.put]; omega
    · simp [Act.put]; omega
    · rfl
  hit := fun c h N id k' n' n hh hc hN hget hG => by
    refine callsD_of_wpS hf hb fun c₀ cs hu => wpS_seq (wpS_region ?_)
    have hrec : recoverD (c₀ :: cs) = some (.iface te (.int .i64 n), { c₀ with mode := .panicking [{ v := .iface te (.int .i64 n), recovered := true }] } :: cs) := by simp [recoverD, hu]
    have hrun : ∀ ev : Operand → Value, (execOp ev ⟨some d, .call ⟨.builtin .recover, #[], tys⟩, ty, pos, af, none⟩).run P c.w = .ok .recover c.w := fun ev => rfl
    have hl : List.range (#[(⟨some d, .call ⟨.builtin .recover, #[], tys⟩, ty, pos, af, none⟩ : Oper)]).size = [0] := rfl
    rw [hl]
    simp only [wpOpsS, List.getElem?_toArray, List.getElem?_cons_zero, Region.wanted, if_true, hrun, hrec, Exit.thenS]
    refine wpS_of_wp ?_
    refine h2 c h N id k' n' n hget _ c.w ⟨c, [], rfl, .refl hh hc, ⟨fun t v ht => ?_, fun _ _ h => (by cases h)⟩, hN, ?_, rfl, hN, fun _ _ h => (by cases h)⟩ _ fun e s a' w' hq hs => ?_
    · rw [get?_cons] at ht
      by_cases e : 0 = t
      · subst e
        rw [if_pos rfl] at ht
        cases ht
        refine ⟨by simp [Act.put]; omega, ?_⟩
        have : (Act.put { tmps := #[.pointer (some ⟨c.ρ id, 0, none⟩)] ++ Array.replicate (fn.ntmps - (#[.pointer (some ⟨c.ρ id, 0, none⟩)] : Array Value).size) undef, defers := [] } (some d) (Value.iface te (.int .i64 n))).tmps.getD 0 undef = .pointer (some ⟨c.ρ id, 0, none⟩) := by
          have h0 : ∀ (a : Array Value) (x : Value), a[0]? = some x → a.getD 0 undef = x := fun a x hx => by
            rw [Array.getD_eq_getD_getElem?, hx]; rfl
          refine h0 _ _ ?_
          simp only [Act.put]
          rw [Array.getElem?_setIfInBounds_ne (by omega), Array.getElem?_append_left (by simp)]
          rfl
        rw [this]; exact ⟨hh.A _ _ hget, hG, rfl⟩
      · rw [if_neg e, get?_cons] at ht
        by_cases e : d = t
        · subst e
          rw [if_pos rfl] at ht
          cases ht
          refine ⟨by simp [Act.put]; omega, ?_⟩
          have : (Act.put { tmps := #[.pointer (some ⟨c.ρ id, 0, none⟩)] ++ Array.replicate (fn.ntmps - (#[.pointer (some ⟨c.ρ id, 0, none⟩)] : Array Value).size) undef, defers := [] } (some d) (Value.iface te (.int .i64 n))).tmps.getD d undef = .iface te (.int .i64 n) := by
            simp [Act.put, Array.getD]; omega
          rw [this]; exact ⟨.int .i64 n, rfl, rfl⟩
        · rw [if_neg e] at ht; cases ht
    · simp [Act.put]; omega
    · obtain ⟨c', ns, rfl, hout, _, hb', _, hdf, _⟩ := hs
      obtain ⟨r, hr⟩ := hres a'.tmps c'.w
      obtain ⟨hq, hsh, hsN⟩ := hq
      rw [hsh] at hout
      rw [hsN] at hb'
      rcases hq with rfl | rfl
      · exact ⟨hdf, _, rfl, r, hr, ⟨r, rfl⟩, rfl, c', ns, rfl, hout, hb'⟩
      · exact ⟨hdf, _, rfl, r, hr, ⟨r, rfl⟩, rfl, c', ns, rfl, hout, hb'⟩
end Go.V
