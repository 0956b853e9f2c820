/- A deferred call that changes nothing of what the caller owns. -/
import Derived.Test.YtdbebdjnpckfdaaDoorFp
set_option linter.unusedSimpArgs false
set_option linter.unusedVariables false
namespace Go.V
open Go.RowKit Go.L
abbrev defG (f : FuncId) (vs : List Value) : Deferred := ⟨.fn (.func f) #[], vs.toArray⟩
theorem VCX.deferR {F : Fr} {y : Code} {Q : Fr → Exit → St → Prop} {s : St} {rid : Nat} {l : List Oper} {fd : FuncId} {xs : Array Operand} {tys : Array TypeId} {ty : TypeId} {pos : String} {af : Array Edge} (k : Nat) {pre : List Oper}
    (hl : splitO k l (fun p q t => some (p, q, t)) = some (pre, ⟨none, .defer ⟨.value (.func fd), xs, tys⟩, ty, pos, af, none⟩, []))
    (h : Seq F l.toArray pre s (fun s' => F.D = [] ∧ ∃ ax, evs s'.g s'.e xs.toList = some ax ∧ ∀ (c : Ctx) (vs : List Value), Rep c ax .T vs → VC ⟨F.P, c, s'.h, F.n, s'.N, [defG fd vs], F.L⟩ y (Q ⟨F.P, c, s'.h, F.n, s'.N, [defG fd vs], F.L⟩) s'))
    (ht : F.L.top = true := by with_unfolding_all rfl) : VCX F (.seq (.region rid l.toArray false) y) Q s := by
  obtain ⟨p, q, t, h1, h2⟩ := splitO_ok hl
  simp only [Option.some.injEq, Prod.mk.injEq] at h2
  obtain ⟨rfl, rfl, rfl⟩ := h2
  subst h1
  intro a w hs QC hQ
  refine F.L.seq (F.L.list (h.wpp (fun s' a w hk hs' => ?_) (by rw [ht]; rfl) a w hs))
  obtain ⟨hD, ax, hx, hq⟩ := hk
  obtain ⟨c, ns, rfl, hout, hen, hb, hsz, hdf, hN0, hgl⟩ := hs'
  have hv := evs_rep hen hx
  unfold oList
  rw [if_pos (by simp [Region.wanted])]
  refine F.L.op (by rw [ht]; rfl) ?_
  have hrun : (execOp a.eval ⟨none, .defer ⟨.value (.func fd), xs, tys⟩, ty, pos, af, none⟩).run F.P c.w = .ok (.defer (defG fd (xs.toList.map a.eval))) c.w := by
    have he : a.eval (.func fd) = .func (.func fd) #[] #[] := rfl
    simp [execOp, resolve, he, Deferred.ofValue, defG]
    rw [← Array.toList_map, Array.toArray_toList]
  unfold Oper.wp
  rw [hrun]
  show F.L.W y QC _ _
  refine hq c _ hv { tmps := a.tmps, defers := defG fd (xs.toList.map a.eval) :: a.defers } c.w ⟨c, [], rfl, .refl hout.heap hout.ok, ⟨hen.slot, hen.glob⟩, hb, hsz, ?_, fun i hi => hb i hi, fun x v hx => hen.glob x v hx⟩ QC fun e s' a' w' h1 h2 => hQ ⟨F.P, c, _, F.n, _, [defG fd (xs.toList.map a.eval)], F.L⟩ _ _ _ _ ⟨rfl, rfl, .inr ⟨ns, hout⟩⟩ h1 h2
  show defG fd (xs.toList.map a.eval) :: a.defers = _
  rw [hdf, hD]
/-- A deferred call that leaves what is owned as it is. -/
def IdleD (P : Program) (fd : FuncId) (g h : Asc) (N : Nat) (ax : AV) : Prop := ∀ (c : Ctx) (vs : List Value), HeapRep c h → CtxOk c → (∀ i, c.A i → i < N) → (∀ x v, get? g x = some v → Rep c (.rptr false v) .V [.pointer (some ⟨x, 0, none⟩)]) → Rep c ax .T vs →
  (∀ w : World, (invoke (.fn (.func fd) #[]) vs.toArray).run P w = .ok (.enter fd vs.toArray) w) ∧ CallsD P fd vs.toArray .returning c.w fun e u' w' => u' = .returning ∧ (∃ r, e = .returned r) ∧ ∃ c' ns, c'.w = w' ∧ Out c h h ns c' ∧ ∀ i, c'.A i → i < N
theorem idle_mk {P : Program} {fd : FuncId} {fn : Func} {code : Code} {g h : Asc} {N : Nat} {ax : AV} (hf : P.funcs[fd]? = some fn) (hb : fn.body = some code) (hnm : fn.name ≠ "runtime.NumGoroutine") (hch : isChain ax = true) (hn : chainLen ax ≤ fn.ntmps) (hr : fn.results = #[])
    (hvc : ∀ c0 : Ctx, VC ⟨P, c0, h, fn.ntmps, N, [], .plain P⟩ code (fun e s => (e = .normal ∨ e = .ret) ∧ s.N = N ∧ ∀ i av, get? h i = some av → get? s.h i = some av) ⟨envOf ax 0, h, g, N⟩) : IdleD P fd g h N ax := fun c vs hh hc hA hg hvs => by
  refine ⟨fun w => by simp [invoke, callFunc, program, Sem.run, hf, hb, hnm], ?_⟩
  have hlen := chain_len hch hvs
  refine callsD_of_wp hf hb (hvc c _ c.w ⟨c, [], rfl, .refl hh hc, ⟨fun t v ht => ?_, hg⟩, hA, ?_, rfl, hA, hg⟩ _ fun e s a w hq hs => ?_)
  · obtain ⟨_, u, q2, q3⟩ := env_of hvs ht
    have hlt : t < vs.length := by
      rcases Nat.lt_or_ge t vs.length with h1 | h1
      · exact h1
      · rw [Nat.sub_zero, List.getElem?_eq_none h1] at q2; cases q2
    refine ⟨by simp; omega, ?_⟩
    have : (vs.toArray ++ Array.replicate (fn.ntmps - vs.toArray.size) undef).getD t undef = u := by
      rw [Nat.sub_zero, List.getElem?_eq_getElem hlt] at q2
      cases q2
      have h1 : t < vs.length + (fn.ntmps - vs.length) := by omega
      simp [h1, Array.getElem_append, hlt]
    rw [this]; exact q3
  · simp; omega
  · obtain ⟨he, hN, hsub⟩ := hq
    obtain ⟨c', ns, rfl, hout, hen, hbd, hsz, hdf, hN0, hgl⟩ := hs
    have hres : (results fn a.tmps).run P c'.w = .ok (.tuple #[]) c'.w := by simp [results, hr]
    have hfin : ∃ v, (results fn a.tmps).run P c'.w = .ok v c'.w ∧ ((∃ r, Ending.returned v = .returned r) ∧ ∃ c2 ns, c2.w = c'.w ∧ Out c h h ns c2 ∧ ∀ i, c2.A i → i < N) :=
      ⟨_, hres, ⟨_, rfl⟩, c', ns, rfl, hout.shrink hsub, fun i hi => by have := hbd i hi; rw [hN] at this; exact this⟩
    rcases he with rfl | rfl
    · exact ⟨hdf, hfin⟩
    · exact ⟨hdf, hfin⟩
def retG (fd : FuncId) (T : List (Option TI)) (fn : Func) (R : AV → Asc → Prop) (F : Fr) (e : Exit) (s : St) : Prop :=
  (F.D = [] ∧ retC F T fn R e s) ∨ ∃ vs ax, F.D = [defG fd vs] ∧ Rep F.c0 ax .T vs ∧ IdleD F.P fd s.g s.h s.N ax ∧ retC F T fn R e s
theorem Ok.of_vcG {P : Program} {T : List (Option TI)} (hT : TabOk P T) (fd : FuncId) {f : FuncId} {fn : Func} {code : Code} {g h : Asc} {args : AV} {R : AV → Asc → Prop} (hf : P.funcs[f]? = some fn) (hb : fn.body = some code) (hch : isChain args = true) (hn : chainLen args ≤ fn.ntmps) (N : Nat) (hN : ∀ i av, get? h i = some av → i < N)
    (hvc : ∀ c0 : Ctx, VCX ⟨P, c0, h, fn.ntmps, N, [], .plain P⟩ code (retG fd T fn R) ⟨envOf args 0, h, g, N⟩) : Ok P f g h args R := by
  intro c hg hh hc hB hA vs hvs
  refine calls_of_wp_defers hf hb (hvc c _ _ (Ok.start hch hn N hN hg hh hc hA hvs) _ fun F e s a w hbh hq hs => ?_)
  have hend : ∀ (s : St) (e : Exit), retC F T fn R e s → ∀ a w, Sim F s a w → (e = .ret ∨ e = .normal) ∧ ∃ v, (results fn a.tmps).run P w = .ok v w ∧ ∃ c' v' r h' ns, Ending.returned v = .returned v' ∧ c'.w = w ∧ Out c h h' ns c' ∧ Rep c' r .V [v'] ∧ R r h' := by
    rintro s e ⟨s', h1, he, r, h', hr, hsub, hR⟩ a w hs
    obtain ⟨c', ns, rfl, hout, hen, _, _, hdf, _⟩ := h1 a w hs
    obtain ⟨v, q1, q2⟩ := res_ok hT hen hout.heap hr
    obtain ⟨ns', hout'⟩ := hbh.to hout
    refine ⟨by cases e <;> simp at he <;> simp, v, ?_, c', v, r, h', ns', rfl, rfl, hout'.shrink hsub, q2, hR⟩
    exact q1
  rcases hq with ⟨hD, hr⟩ | ⟨dvs, ax, hD, hax, hid, hr⟩
  · obtain ⟨he, v, q1, q2⟩ := hend s e hr a w hs
    obtain ⟨c', ns, rfl, hout, hen, _, _, hdf, _⟩ := hs
    have hdf : a.defers = [] := by rw [hdf, hD]
    rcases he with rfl | rfl
    · show Leaves P fn a.tmps _ a.defers .returning _
      rw [hdf]; exact ⟨v, q1, q2⟩
    · show Leaves P fn a.tmps _ a.defers .returning _
      rw [hdf]; exact ⟨v, q1, q2⟩
  · obtain ⟨he, _⟩ := hend s e hr a w hs
    obtain ⟨c1, ns, rfl, hout, hen, hbd, hsz, hdf, hN0, hgl⟩ := hs
    have hdf' : a.defers = [defG fd dvs] := by rw [hdf, hD]
    have hP : F.P = P := hbh.P
    rw [hP] at hid
    obtain ⟨i1, i2⟩ := hid c1 dvs hout.heap hout.ok hbd (fun x v hx => hen.glob x v hx) (hax.le hout.le)
    have hl : Leaves P fn a.tmps (fun e w' => ∃ c' v r h' ns, e = .returned v ∧ c'.w = w' ∧ Out c h h' ns c' ∧ Rep c' r .V [v] ∧ R r h') a.defers .returning c1.w := by
      rw [hdf']
      refine leaves_cons (by simp) (i1 _) (i2.mono ?_)
      rintro e' u' w' ⟨rfl, ⟨r, rfl⟩, c2, ns2, rfl, hout2, hA2⟩
      obtain ⟨_, v, q1, q2⟩ := hend s e hr a c2.w ⟨c2, _, rfl, hout.trans hout2, hen.le hout2.le, hA2, hsz, hdf, hN0, hgl⟩
      exact ⟨v, q1, q2⟩
    rcases he with rfl | rfl
    · exact hl
    · exact hl
end Go.V
