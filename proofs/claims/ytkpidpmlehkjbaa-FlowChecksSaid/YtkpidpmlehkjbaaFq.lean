/- Calls that panic, and functions that defer a call. == of structs of two numbers. -/
import Derived.Test.YtkpidpmlehkjbaaFo
import Derived.Defers
import Derived.Recover
import Derived.Test.YtkpidpmlehkjbaaFn
import Derived.Laws.StructEq
set_option linter.unusedSimpArgs false
set_option linter.unusedVariables false
namespace Go.V
open Go.RowKit Go.L
abbrev pan (v : Value) : List PanicEntry := [{ v := v, recovered := false }]
/-- A call that panics. -/
def OkP (P : Program) (f : FuncId) (g h : Asc) (args : AV) (pv : Value) (h1 : Asc) : Prop := OkE (fun _ => .panicked (pan pv)) P f g h args (fun r h' => r = .tup .nul ∧ h' = h1)
/-- An operation that panics. -/
def PanTo (F : Fr) (ops : Array Oper) (o : Oper) (s : St) (Q : Exit → St → Prop) : Prop :=
  wants ops o s.e = some true ∧ ∀ a w, Sim F s a w → ∀ (K : Act → World → Prop) (QC : Exit → Act → World → Prop), (∀ e s' a' w', Q e s' → Sim F s' a' w' → QC e a' w') → o.wp F.P a w K QC
theorem PanTo.conv {F : Fr} {ops : Array Oper} {o : Oper} {e h g e' h' : Asc} {N N' : Nat} {Q : Exit → St → Prop} (hc : ∀ a w, Sim F ⟨e, h, g, N⟩ a w → Sim F ⟨e', h', g, N'⟩ a w) (hw : wants ops o e = some true) (hp : PanTo F ops o ⟨e', h', g, N'⟩ Q) : PanTo F ops o ⟨e, h, g, N⟩ Q :=
  ⟨hw, fun a w hs K QC hQ => hp.2 a w (hc a w hs) K QC hQ⟩
theorem PanTo.panic {F : Fr} {ops : Array Oper} {Q : Exit → St → Prop} {e h g : Asc} {N : Nat} {d : Option Tmp} {x : Operand} {ty : TypeId} {pos : String} {af : Array Edge} {gd : Option (Nat × Bool)} {t : TypeId} {k : IntKind} {n : Int} (hx : ev g e x = some (.ifc t (.int k n))) (hw : wants ops ⟨d, .panic x, ty, pos, af, gd⟩ e = some true)
    (hq : Q (.panic (pan (.iface t (.int k n)))) ⟨e, h, g, N⟩) : PanTo F ops ⟨d, .panic x, ty, pos, af, gd⟩ ⟨e, h, g, N⟩ Q := by
  refine ⟨hw, fun a w hs K QC hQ => ?_⟩
  have hs' := hs
  obtain ⟨c, ns, rfl, hout, hen, _⟩ := hs
  obtain ⟨v, h1, h2⟩ := ev_rep hen hx
  have h2 : v = .int k n := by
    have h3 : [v] = [Value.int k n] := h2
    cases h3; rfl
  have h1 : a.eval x = .iface t (.int k n) := by
    simp only [List.cons.injEq, and_true] at h1
    rw [h1, h2]
  have hrun : (execOp a.eval ⟨d, .panic x, ty, pos, af, gd⟩).run F.P c.w = .halt (.panic (.iface t (.int k n))) c.w := by
    simp only [execOp, h1]
    rfl
  unfold Oper.wp
  rw [hrun]
  exact hQ _ _ _ _ hq hs'
/-- Where a function's body panics. -/
def panQ (F : Fr) (pv : Value) (h1 : Asc) (e : Exit) (s : St) : Prop := e = .panic (pan pv) ∧ ∃ s' : St, (∀ a w, Sim F s a w → Sim F s' a w) ∧ ∀ id av, get? h1 id = some av → get? s'.h id = some av
theorem Ok.start {P : Program} {fn : Func} {g h : Asc} {args : AV} (hch : isChain args = true) (hn : chainLen args ≤ fn.ntmps) (N : Nat) (hN : ∀ i av, get? h i = some av → i < N) {c : Ctx} (hg : ∀ x v, get? g x = some v → Rep c (.rptr false v) .V [.pointer (some ⟨x, 0, none⟩)]) (hh : HeapRep c h) (hc : CtxOk c) (hA : ∀ i, c.A i → ∃ av, get? h i = some av) {vs : List Value} (hvs : Rep c args .T vs) :
    Sim ⟨P, c, h, fn.ntmps, N, [], .plain P⟩ ⟨envOf args 0, h, g, N⟩ { tmps := vs.toArray ++ Array.replicate (fn.ntmps - vs.toArray.size) undef, defers := [] } c.w := by
  have hlen := chain_len hch hvs
  refine ⟨c, [], rfl, .refl hh hc, ⟨fun t v ht => ?_, hg⟩, fun i hi => ?_, ?_, rfl, fun i hi => ?_, hg⟩
  · obtain ⟨_, u, q2, q3⟩ := env_of hvs ht
    have hlt : t < vs.length := by
      rcases Nat.lt_or_ge t vs.length with h1 | h1
      · exact h1
      · rw [Nat.sub_zero, List.getElem?_eq_none h1] at q2; cases q2
    refine ⟨by simp; omega, ?_⟩
    have : (vs.toArray ++ Array.replicate (fn.ntmps - vs.toArray.size) undef).getD t undef = u := by
      rw [Nat.sub_zero, List.getElem?_eq_getElem hlt] at q2
      cases q2
      have h1 : t < vs.length + (fn.ntmps - vs.length) := by omega
      simp [h1, Array.getElem_append, hlt]
    rw [this]; exact q3
  · obtain ⟨av, hi⟩ := hA i hi; exact hN i av hi
  · simp; omega
  · obtain ⟨av, hi⟩ := hA i hi; exact hN i av hi
theorem OkP.of_vc {P : Program} {f : FuncId} {fn : Func} {code : Code} {g h h1 : Asc} {args : AV} {pv : Value} (hf : P.funcs[f]? = some fn) (hb : fn.body = some code) (hch : isChain args = true) (hn : chainLen args ≤ fn.ntmps) (N : Nat) (hN : ∀ i av, get? h i = some av → i < N)
    (hvc : ∀ c0 : Ctx, VC ⟨P, c0, h, fn.ntmps, N, [], .plain P⟩ code (panQ ⟨P, c0, h, fn.ntmps, N, [], .plain P⟩ pv h1) ⟨envOf args 0, h, g, N⟩) : OkP P f g h args pv h1 := by
  intro c hg hh hc hB hA vs hvs
  refine calls_of_wp hf hb (hvc c _ _ (Ok.start hch hn N hN hg hh hc hA hvs) _ fun e s a w hq hs => ?_)
  obtain ⟨rfl, s', h2, h3⟩ := hq
  obtain ⟨c', ns, rfl, hout, hen, _, _, hdf, _⟩ := h2 a w hs
  exact ⟨hdf, c', .tuple #[], .tup .nul, h1, ns, rfl, rfl, hout.shrink h3, ⟨[], rfl, rfl⟩, rfl, rfl⟩
/-! A region that draws its order, an operation of which panics. -/
/-! A deferred call. -/
structure Behind (F F' : Fr) : Prop where
  P : F'.P = F.P
  n : F'.n = F.n
  out : (F'.c0 = F.c0 ∧ F'.h0 = F.h0) ∨ ∃ ns, Out F.c0 F.h0 F'.h0 ns F'.c0
theorem Behind.refl (F : Fr) : Behind F F := ⟨rfl, rfl, .inl ⟨rfl, rfl⟩⟩
theorem Behind.to {F F' : Fr} (h : Behind F F') {h' : Asc} {ns : List Nat} {c : Ctx} (o : Out F'.c0 F'.h0 h' ns c) : ∃ ns', Out F.c0 F.h0 h' ns' c := by
  rcases h.out with ⟨e1, e2⟩ | ⟨ms, o1⟩
  · rw [e1, e2] at o; exact ⟨ns, o⟩
  · exact ⟨ms ++ ns, o1.trans o⟩
/-- Code that may lay a deferred call. -/
def VCX (F : Fr) (x : Code) (Q : Fr → Exit → St → Prop) (s : St) : Prop := ∀ a w, Sim F s a w → ∀ QC : Exit → Act → World → Prop, (∀ F' e s' a' w', Behind F F' → Q F' e s' → Sim F' s' a' w' → QC e a' w') → F.L.W x QC a w
theorem VCX.of_vc {F : Fr} {x : Code} {Q : Fr → Exit → St → Prop} {s : St} (h : VC F x (Q F) s) : VCX F x Q s := fun a w hs QC hQ => h a w hs QC fun e s' a' w' hq hs' => hQ F e s' a' w' (.refl F) hq hs'
abbrev defOf (f : FuncId) (c : Ctx) (id : Nat) : Deferred := ⟨.fn (.func f) #[], #[.pointer (some ⟨c.ρ id, 0, none⟩)]⟩
theorem VCX.defer {F : Fr} {y : Code} {Q : Fr → Exit → St → Prop} {e h g : Asc} {N rid : Nat} {fd : FuncId} {x : Operand} {tys : Array TypeId} {ty : TypeId} {pos : String} {af : Array Edge} {id : Nat} (hx : ev g e x = some (.ptr id [])) (hD : F.D = [])
    (hq : ∀ c : Ctx, c.A id → ¬ c.G id → VC ⟨F.P, c, h, F.n, N, [defOf fd c id], F.L⟩ y (Q ⟨F.P, c, h, F.n, N, [defOf fd c id], F.L⟩) ⟨e, h, g, N⟩) (ht : F.L.top = true := by with_unfolding_all rfl) :
    VCX F (.seq (.region rid #[⟨none, .defer ⟨.value (.func fd), #[x], tys⟩, ty, pos, af, none⟩] false) y) Q ⟨e, h, g, N⟩ := by
  intro a w hs QC hQ
  obtain ⟨c, ns, rfl, hout, hen, hb, hsz, hdf, hN0, hgl⟩ := hs
  obtain ⟨hA, hG, hv⟩ := ev_rep hen hx
  have hv : a.eval x = .pointer (some ⟨c.ρ id, 0, none⟩) := by simpa [pathOff] using hv
  refine F.L.seq (F.L.list (l := [_]) ?_)
  unfold oList
  rw [if_pos (by simp [Region.wanted])]
  refine F.L.op (by rw [ht]; rfl) ?_
  have hrun : (execOp a.eval ⟨none, .defer ⟨.value (.func fd), #[x], tys⟩, ty, pos, af, none⟩).run F.P c.w = .ok (.defer (defOf fd c id)) c.w := by
    have he : a.eval (.func fd) = .func (.func fd) #[] #[] := rfl
    simp [execOp, resolve, he, Deferred.ofValue, hv, defOf]
  unfold Oper.wp
  rw [hrun]
  show F.L.W y QC _ _
  refine hq c hA hG { tmps := a.tmps, defers := defOf fd c id :: a.defers } c.w ⟨c, [], rfl, .refl hout.heap hout.ok, ⟨hen.slot, hen.glob⟩, hb, hsz, ?_, fun i hi => hb i hi, fun x v hx => hen.glob x v hx⟩ QC fun e s' a' w' h1 h2 => hQ ⟨F.P, c, h, F.n, N, [defOf fd c id], F.L⟩ _ _ _ _ ⟨rfl, rfl, .inr ⟨ns, hout⟩⟩ h1 h2
  show defOf fd c id :: a.defers = _
  rw [hdf, hD]
/-- What a deferred function does that turns a panic with an error number into a result. -/
structure Catches (P : Program) (fd : FuncId) (te : TypeId) : Prop where
  inv : ∀ v w, (invoke (.fn (.func fd) #[]) #[v]).run P w = .ok (.enter fd #[v]) w
  idle : ∀ v w, CallsD P fd #[v] .returning w fun e u' w' => (∃ r, e = .returned r) ∧ u' = .returning ∧ w' = w
  hit : ∀ (c : Ctx) (h : Asc) (N id : Nat) (k' : IntKind) (n' n : Int), HeapRep c h → CtxOk c → (∀ i, c.A i → i < N) → get? h id = some (.int k' n') → ¬ c.G id →
    CallsD P fd #[.pointer (some ⟨c.ρ id, 0, none⟩)] (.panicking (pan (.iface te (.int .i64 n)))) c.w fun e u' w' => (∃ r, e = .returned r) ∧ u' = .panicking [{ v := .iface te (.int .i64 n), recovered := true }] ∧ ∃ c' ns, c'.w = w' ∧ Out c h (putL h id (.int .i64 n)) ns c' ∧ ∀ i, c'.A i → i < N
/-! What a deferred function that recovers needs. -/
end Go.V

namespace Go.V
open Go.RowKit Go.L
structure TwoInts (P : Program) (t : TypeId) : Prop where
  und : ∃ f0 f1 : Field, P.underlying t = some (.struct #[f0, f1]) ∧ f0.name ≠ "_" ∧ f1.name ≠ "_" ∧ f0.offset = 0 ∧ f1.offset = 1 ∧ P.underlying f0.type = some (.int .i64) ∧ P.underlying f1.type = some (.int .i64)
  st : P.stoodInHeld t = false
  gd : P.eqGuardType P.depth t = false
variable {P : Program} {t yt ty : TypeId} {g e h : Asc} {x y : Operand} {d : Option Tmp} {pos : String} {af : Array Edge} {gd : Option (Nat × Bool)}
/-! A region that draws its order, behind whose plan several orders are left. -/
def allJ (p : Nat → Prop) : List Nat → Prop
  | [] => True
  | j :: r => p j ∧ allJ p r
def SeqT (F : Fr) (ops : Array Oper) (K : St → Prop) : Nat → Array Bool → St → Prop
  | 0, listed, s => Region.ready .any ops listed = [] ∧ K s
  | n + 1, listed, s => Region.ready .any ops listed ≠ [] ∧ allJ (fun j => ∃ o, ops[j]? = some o ∧ Seq F ops [o] s (SeqT F ops K n (listed.setIfInBounds j true))) (Region.ready .any ops listed)
theorem SeqT.one {F : Fr} {ops : Array Oper} {K : St → Prop} {n : Nat} {listed : Array Bool} {s : St} (j : Nat) {o : Oper} (hr : Region.ready .any ops listed = [j]) (ho : ops[j]? = some o) (h : Seq F ops [o] s (SeqT F ops K n (listed.setIfInBounds j true))) : SeqT F ops K (n + 1) listed s := by
  refine ⟨by rw [hr]; simp, ?_⟩
  rw [hr]; exact ⟨⟨o, ho, h⟩, trivial⟩
theorem SeqT.drawn {F : Fr} {ops : Array Oper} {K : St → Prop} {n : Nat} {listed : Array Bool} {its : List It} {e0 h0 g e' h' : Asc} {N : Nat} (hE : selEO allB e0 its some = some e') (hH : selHO allB h0 its some = some h') (h : SeqT F ops K n listed ⟨e', h', g, N⟩) : SeqT F ops K n listed (V.drawn its e0 h0 g N) := by
  rw [selEO_eq] at hE
  rw [selHO_eq] at hH
  cases hE; cases hH
  exact h
end Go.V
