/- Drawn regions whose tail waits by way of its own operations. A drawn region with one operation that turns an object and gives a value, while operations that only give values may still come behind it. Calls that panic, and functions that defer a call. -/
import Derived.Test.YtmbldnahcmkpgaaDoorFe
import Derived.Defers
import Derived.Recover
set_option linter.unusedSimpArgs false
set_option linter.unusedVariables false
namespace Go.V
open Go.RowKit Go.L Go.Chain
section
variable {P : Program} {ops : Array Oper} {Q : Exit → Act → World → Prop}
end
end Go.V

namespace Go.V
open Go.RowKit Go.L Go.Chain
/-- A planned operation that only gives a value, over the objects behind the turn. -/
def LateOkH (P : Program) (ops : Array Oper) (g eL H : Asc) (it : It) : Prop := it.n = [] ∧ ∃ o, ops[it.j]? = some o ∧ o.dst = some it.d ∧ wants ops o eL = some true ∧ OpOk P o g eL H (some it.v) H []
set_option maxHeartbeats 1000000 in
/-- What a late operation may look at: what is not late, and what it waits for. -/
def lateM (late : List Nat) (plan : List (Nat × Nat)) (j : Nat) : Nat → Bool := fun i => nrem late i || tbb (maskOf plan j) i
theorem anc_done {ops : Array Oper} {plan : List (Nat × List Nat)} (hb : ancB ops plan plan [] = true) (hac : Og.acyc ops = true) (hlt : ∀ j ∈ plan.map (·.1), j < ops.size) {rem : List Nat}
    (hdown : ∀ i k, i ∈ plan.map (·.1) → i ∉ rem → waits .any ops i k = true → k ∈ plan.map (·.1) → k ∉ rem) : ∀ (j : Nat) (anc : List Nat), (j, anc) ∈ plan → (∀ k, waits .any ops j k = true → k ∈ plan.map (·.1) → k ∉ rem) → ∀ i ∈ anc, i ∉ rem := by
  intro j
  induction j using Nat.strongRecOn with
  | _ j ih =>
    intro anc hp hw i hi
    obtain ⟨a, b, e⟩ := List.append_of_mem hp
    obtain ⟨h1, h2⟩ := ancB_spec hb e i hi
    have hjd : j ∈ plan.map (·.1) := List.mem_map.2 ⟨_, hp, rfl⟩
    have hid : i ∈ plan.map (·.1) := by
      rcases h1 with h1 | h1
      · rw [e]; simp only [List.map_append]; exact List.mem_append_left _ h1
      · cases h1
    rcases h2 with h2 | ⟨q, q1, q2, q3⟩
    · exact hw i h2 hid
    · have hqd : q.1 ∈ plan.map (·.1) := List.mem_map.2 ⟨q, q1, rfl⟩
      have hqr := hw q.1 q2 hqd
      exact ih q.1 (acyc_lt hac (hlt j hjd) q2) q.2 q1 (fun k hk hkd => hdown q.1 k hqd hqr hk hkd) i q3
def LateLH (P : Program) (ops : Array Oper) (g e1 H : Asc) (late : List Nat) (plan : List (Nat × Nat)) (its0 : List It) : List It → Prop
  | [] => True
  | ⟨j, d, v, n⟩ :: r => (bif memB j late then ∃ eL, selEO (lateM late plan j) e1 its0 some = some eL ∧ LateOkH P ops g eL H ⟨j, d, v, n⟩ else True) ∧ LateLH P ops g e1 H late plan its0 r
theorem lateLH_ok {P : Program} {ops : Array Oper} {g e1 H : Asc} {late : List Nat} {plan : List (Nat × Nat)} {its0 : List It} : ∀ {its : List It}, LateLH P ops g e1 H late plan its0 its → ∀ it ∈ its, it.j ∈ late → LateOkH P ops g (selE (lateM late plan it.j) its0 ++ e1) H it
  | [], _, it, h, _ => by cases h
  | x :: r, hl, it, h, hj => by
    rcases List.mem_cons.1 h with e | h
    · subst e
      have h1 := hl.1
      rw [memB_ok.2 hj] at h1
      obtain ⟨eL, h2, h3⟩ := h1
      rw [selEO_eq] at h2
      cases h2
      exact h3
    · exact lateLH_ok hl.2 it h hj
theorem lateX {P : Program} {ops : Array Oper} {g e1 H eL : Asc} {late : List Nat} {plan : List (Nat × Nat)} {its0 : List It} {j : Nat} {it : It} (h1 : selEO (lateM late plan j) e1 its0 some = some eL) (h2 : LateOkH P ops g eL H it) : ∃ eL, selEO (lateM late plan j) e1 its0 some = some eL ∧ LateOkH P ops g eL H it := ⟨eL, h1, h2⟩
theorem late_evH {P : Program} {ops : Array Oper} {g eL H : Asc} {j : Nat} {d : Tmp} {v : AV} {op : Op} {ty : TypeId} {pos : String} {af : Array Edge} {gd : Option (Nat × Bool)} {ps : List Prop} (m : Bool) {T : List (Option TI)} (hT : TabOk P T) (ho : ops[j]? = some ⟨some d, op, ty, pos, af, gd⟩) (hns : notStore op = true) (hw : wants ops ⟨some d, op, ty, pos, af, gd⟩ eL = some true) (he : evalOp m T g eL H 0 op = some ⟨ps, some v, H, 0⟩) (hp : AllP ps) : LateOkH P ops g eL H ⟨j, d, v, []⟩ :=
  ⟨rfl, _, ho, rfl, hw, evalOp_ok hT (by cases op <;> first | rfl | cases hns) he hp⟩
theorem late_move {P : Program} {ops : Array Oper} {g eL : Asc} {j : Nat} {d : Tmp} {v : AV} {x : Operand} {ty : TypeId} {pos : String} {af : Array Edge} {gd : Option (Nat × Bool)} (ho : ops[j]? = some ⟨some d, .move x, ty, pos, af, gd⟩) (hw : wants ops ⟨some d, .move x, ty, pos, af, gd⟩ eL = some true) (hx : V.ev g eL x = some v) : LateOk P ops g eL ⟨j, d, v, []⟩ :=
  ⟨rfl, _, ho, rfl, hw, fun h => move_ok hx⟩
end Go.V

namespace Go.V
open Go.RowKit Go.L
abbrev pan (v : Value) : List PanicEntry := [{ v := v, recovered := false }]
/-- A call that panics. -/
def OkP (P : Program) (f : FuncId) (g h : Asc) (args : AV) (pv : Value) (h1 : Asc) : Prop := OkE (fun _ => .panicked (pan pv)) P f g h args (fun r h' => r = .tup .nul ∧ h' = h1)
/-- An operation that panics. -/
def PanTo (F : Fr) (ops : Array Oper) (o : Oper) (s : St) (Q : Exit → St → Prop) : Prop :=
  wants ops o s.e = some true ∧ ∀ a w, Sim F s a w → ∀ (K : Act → World → Prop) (QC : Exit → Act → World → Prop), (∀ e s' a' w', Q e s' → Sim F s' a' w' → QC e a' w') → o.wp F.P a w K QC
theorem PanTo.conv {F : Fr} {ops : Array Oper} {o : Oper} {e h g e' h' : Asc} {N N' : Nat} {Q : Exit → St → Prop} (hc : ∀ a w, Sim F ⟨e, h, g, N⟩ a w → Sim F ⟨e', h', g, N'⟩ a w) (hw : wants ops o e = some true) (hp : PanTo F ops o ⟨e', h', g, N'⟩ Q) : PanTo F ops o ⟨e, h, g, N⟩ Q :=
  ⟨hw, fun a w hs K QC hQ => hp.2 a w (hc a w hs) K QC hQ⟩
theorem Seq.wpp {F : Fr} {ops : Array Oper} {l : List Oper} {s : St} {K : St → Prop} (h : Seq F ops l s K) {Q : Exit → Act → World → Prop} {o : Oper} {r : List Oper} (hQ : ∀ s' a w, K s' → Sim F s' a w → oList F.L.O ops Q (o :: r) a w) : (F.L.top || l.all notDef) = true → ∀ a w, Sim F s a w → oList F.L.O ops Q (l ++ o :: r) a w := by
  induction h with
  | nil hk => intro hd a w hs; exact hQ _ a w hk hs
  | step N' hw ok hn hN hdd _ ih =>
    intro hd a w hs
    show oList F.L.O ops Q (_ :: _) a w
    unfold oList
    rw [if_pos (wants_ok hs hw)]
    exact F.L.op (all_cons hd).1 (step_wp (ops := ops) ok hn hN hdd hs fun a' w' hs' => ih hQ (all_cons hd).2 a' w' hs')
  | skip hw hdd _ ih =>
    intro hd a w hs
    show oList F.L.O ops Q (_ :: _) a w
    unfold oList
    rw [if_neg (by rw [wants_ok hs hw]; simp)]
    exact ih hQ (all_cons hd).2 _ _ (skip_sim hdd hs)
  | to S' hw ok _ ih =>
    intro hd a w hs
    show oList F.L.O ops Q (_ :: _) a w
    unfold oList
    rw [if_pos (wants_ok hs hw)]
    exact F.L.op (all_cons hd).1 (ok a w hs _ _ fun s' a' w' hs' hsim => ih s' hs' hQ (all_cons hd).2 a' w' hsim)
  | conv h _ ih => intro hd a w hs; exact ih hQ hd a w (h a w hs)
def splitO {α : Type} : Nat → List Oper → (List Oper → Oper → List Oper → Option α) → Option α
  | 0, o :: r, k => k [] o r
  | n + 1, o :: r, k => splitO n r fun p q t => k (o :: p) q t
  | _, [], _ => none
theorem splitO_ok {α : Type} : ∀ {n : Nat} {l : List Oper} {k : List Oper → Oper → List Oper → Option α} {x : α}, splitO n l k = some x → ∃ p o r, l = p ++ o :: r ∧ k p o r = some x
  | 0, o :: r, k, x, h => ⟨[], o, r, rfl, h⟩
  | n + 1, o :: r, k, x, h => by
    obtain ⟨p, q, t, h1, h2⟩ := splitO_ok (n := n) (l := r) h
    exact ⟨o :: p, q, t, by rw [h1]; rfl, h2⟩
  | 0, [], _, _, h => by cases h
  | n + 1, [], _, _, h => by cases h
theorem PanTo.panic {F : Fr} {ops : Array Oper} {Q : Exit → St → Prop} {e h g : Asc} {N : Nat} {d : Option Tmp} {x : Operand} {ty : TypeId} {pos : String} {af : Array Edge} {gd : Option (Nat × Bool)} {t : TypeId} {k : IntKind} {n : Int} (hx : ev g e x = some (.ifc t (.int k n))) (hw : wants ops ⟨d, .panic x, ty, pos, af, gd⟩ e = some true)
    (hq : Q (.panic (pan (.iface t (.int k n)))) ⟨e, h, g, N⟩) : PanTo F ops ⟨d, .panic x, ty, pos, af, gd⟩ ⟨e, h, g, N⟩ Q := by
  refine ⟨hw, fun a w hs K QC hQ => ?_⟩
  have hs' := hs
  obtain ⟨c, ns, rfl, hout, hen, _⟩ := hs
  obtain ⟨v, h1, h2⟩ := ev_rep hen hx
  have h2 : v = .int k n := by
    have h3 : [v] = [Value.int k n] := h2
    cases h3; rfl
  have h1 : a.eval x = .iface t (.int k n) := by
    simp only [List.cons.injEq, and_true] at h1
    rw [h1, h2]
  have hrun : (execOp a.eval ⟨d, .panic x, ty, pos, af, gd⟩).run F.P c.w = .halt (.panic (.iface t (.int k n))) c.w := by
    simp only [execOp, h1]
    rfl
  unfold Oper.wp
  rw [hrun]
  exact hQ _ _ _ _ hq hs'
/-- Where a function's body panics. -/
def panQ (F : Fr) (pv : Value) (h1 : Asc) (e : Exit) (s : St) : Prop := e = .panic (pan pv) ∧ ∃ s' : St, (∀ a w, Sim F s a w → Sim F s' a w) ∧ ∀ id av, get? h1 id = some av → get? s'.h id = some av
theorem Ok.start {P : Program} {fn : Func} {g h : Asc} {args : AV} (hch : isChain args = true) (hn : chainLen args ≤ fn.ntmps) (N : Nat) (hN : ∀ i av, get? h i = some av → i < N) {c : Ctx} (hg : ∀ x v, get? g x = some v → Rep c (.rptr false v) .V [.pointer (some ⟨x, 0, none⟩)]) (hh : HeapRep c h) (hc : CtxOk c) (hA : ∀ i, c.A i → ∃ av, get? h i = some av) {vs : List Value} (hvs : Rep c args .T vs) :
    Sim ⟨P, c, h, fn.ntmps, N, [], .plain P⟩ ⟨envOf args 0, h, g, N⟩ { tmps := vs.toArray ++ Array.replicate (fn.ntmps - vs.toArray.size) undef, defers := [] } c.w := by
  have hlen := chain_len hch hvs
  refine ⟨c, [], rfl, .refl hh hc, ⟨fun t v ht => ?_, hg⟩, fun i hi => ?_, ?_, rfl, fun i hi => ?_, hg⟩
  · obtain ⟨_, u, q2, q3⟩ := env_of hvs ht
    have hlt : t < vs.length := by
      rcases Nat.lt_or_ge t vs.length with h1 | h1
      · exact h1
      · rw [Nat.sub_zero, List.getElem?_eq_none h1] at q2; cases q2
    refine ⟨by simp; omega, ?_⟩
    have : (vs.toArray ++ Array.replicate (fn.ntmps - vs.toArray.size) undef).getD t undef = u := by
      rw [Nat.sub_zero, List.getElem?_eq_getElem hlt] at q2
      cases q2
      have h1 : t < vs.length + (fn.ntmps - vs.length) := by omega
      simp [h1, Array.getElem_append, hlt]
    rw [this]; exact q3
  · obtain ⟨av, hi⟩ := hA i hi; exact hN i av hi
  · simp; omega
  · obtain ⟨av, hi⟩ := hA i hi; exact hN i av hi
theorem OkP.of_vc {P : Program} {f : FuncId} {fn : Func} {code : Code} {g h h1 : Asc} {args : AV} {pv : Value} (hf : P.funcs[f]? = some fn) (hb : fn.body = some code) (hch : isChain args = true) (hn : chainLen args ≤ fn.ntmps) (N : Nat) (hN : ∀ i av, get? h i = some av → i < N)
    (hvc : ∀ c0 : Ctx, VC ⟨P, c0, h, fn.ntmps, N, [], .plain P⟩ code (panQ ⟨P, c0, h, fn.ntmps, N, [], .plain P⟩ pv h1) ⟨envOf args 0, h, g, N⟩) : OkP P f g h args pv h1 := by
  intro c hg hh hc hB hA vs hvs
  refine calls_of_wp hf hb (hvc c _ _ (Ok.start hch hn N hN hg hh hc hA hvs) _ fun e s a w hq hs => ?_)
  obtain ⟨rfl, s', h2, h3⟩ := hq
  obtain ⟨c', ns, rfl, hout, hen, _, _, hdf, _⟩ := h2 a w hs
  exact ⟨hdf, c', .tuple #[], .tup .nul, h1, ns, rfl, rfl, hout.shrink h3, ⟨[], rfl, rfl⟩, rfl, rfl⟩
/-! A region that draws its order, an operation of which panics. -/
/-! A deferred call. -/
structure Behind (F F' : Fr) : Prop where
  P : F'.P = F.P
  n : F'.n = F.n
  out : (F'.c0 = F.c0 ∧ F'.h0 = F.h0) ∨ ∃ ns, Out F.c0 F.h0 F'.h0 ns F'.c0
theorem Behind.refl (F : Fr) : Behind F F := ⟨rfl, rfl, .inl ⟨rfl, rfl⟩⟩
theorem Behind.to {F F' : Fr} (h : Behind F F') {h' : Asc} {ns : List Nat} {c : Ctx} (o : Out F'.c0 F'.h0 h' ns c) : ∃ ns', Out F.c0 F.h0 h' ns' c := by
  rcases h.out with ⟨e1, e2⟩ | ⟨ms, o1⟩
  · rw [e1, e2] at o; exact ⟨ns, o⟩
  · exact ⟨ms ++ ns, o1.trans o⟩
/-- Code that may lay a deferred call. -/
def VCX (F : Fr) (x : Code) (Q : Fr → Exit → St → Prop) (s : St) : Prop := ∀ a w, Sim F s a w → ∀ QC : Exit → Act → World → Prop, (∀ F' e s' a' w', Behind F F' → Q F' e s' → Sim F' s' a' w' → QC e a' w') → F.L.W x QC a w
theorem VCX.of_vc {F : Fr} {x : Code} {Q : Fr → Exit → St → Prop} {s : St} (h : VC F x (Q F) s) : VCX F x Q s := fun a w hs QC hQ => h a w hs QC fun e s' a' w' hq hs' => hQ F e s' a' w' (.refl F) hq hs'
theorem VCX.seqV {F : Fr} {x y : Code} {Q : Fr → Exit → St → Prop} {s : St} (h : VC F x (thenQ (VCX F y Q) (Q F)) s) : VCX F (.seq x y) Q s := fun a w hs QC hQ => F.L.seq (h a w hs _ fun e s' a' w' hq hs' => by
  cases e <;> first | exact hq a' w' hs' QC hQ | exact hQ F _ _ _ _ (.refl F) hq hs')
abbrev defOf (f : FuncId) (c : Ctx) (id : Nat) : Deferred := ⟨.fn (.func f) #[], #[.pointer (some ⟨c.ρ id, 0, none⟩)]⟩
theorem VCX.defer {F : Fr} {y : Code} {Q : Fr → Exit → St → Prop} {e h g : Asc} {N rid : Nat} {fd : FuncId} {x : Operand} {tys : Array TypeId} {ty : TypeId} {pos : String} {af : Array Edge} {id : Nat} (hx : ev g e x = some (.ptr id [])) (hD : F.D = [])
    (hq : ∀ c : Ctx, c.A id → ¬ c.G id → VC ⟨F.P, c, h, F.n, N, [defOf fd c id], F.L⟩ y (Q ⟨F.P, c, h, F.n, N, [defOf fd c id], F.L⟩) ⟨e, h, g, N⟩) (ht : F.L.top = true := by with_unfolding_all rfl) :
    VCX F (.seq (.region rid #[⟨none, .defer ⟨.value (.func fd), #[x], tys⟩, ty, pos, af, none⟩] false) y) Q ⟨e, h, g, N⟩ := by
  intro a w hs QC hQ
  obtain ⟨c, ns, rfl, hout, hen, hb, hsz, hdf, hN0, hgl⟩ := hs
  obtain ⟨hA, hG, hv⟩ := ev_rep hen hx
  have hv : a.eval x = .pointer (some ⟨c.ρ id, 0, none⟩) := by simpa [pathOff] using hv
  refine F.L.seq (F.L.list (l := [_]) ?_)
  unfold oList
  rw [if_pos (by simp [Region.wanted])]
  refine F.L.op (by rw [ht]; rfl) ?_
  have hrun : (execOp a.eval ⟨none, .defer ⟨.value (.func fd), #[x], tys⟩, ty, pos, af, none⟩).run F.P c.w = .ok (.defer (defOf fd c id)) c.w := by
    have he : a.eval (.func fd) = .func (.func fd) #[] #[] := rfl
    simp [execOp, resolve, he, Deferred.ofValue, hv, defOf]
  unfold Oper.wp
  rw [hrun]
  show F.L.W y QC _ _
  refine hq c hA hG { tmps := a.tmps, defers := defOf fd c id :: a.defers } c.w ⟨c, [], rfl, .refl hout.heap hout.ok, ⟨hen.slot, hen.glob⟩, hb, hsz, ?_, fun i hi => hb i hi, fun x v hx => hen.glob x v hx⟩ QC fun e s' a' w' h1 h2 => hQ ⟨F.P, c, h, F.n, N, [defOf fd c id], F.L⟩ _ _ _ _ ⟨rfl, rfl, .inr ⟨ns, hout⟩⟩ h1 h2
  show defOf fd c id :: a.defers = _
  rw [hdf, hD]
/-- What a deferred function does that turns a panic with an error number into a result. -/
structure Catches (P : Program) (fd : FuncId) (te : TypeId) : Prop where
  inv : ∀ v w, (invoke (.fn (.func fd) #[]) #[v]).run P w = .ok (.enter fd #[v]) w
  idle : ∀ v w, CallsD P fd #[v] .returning w fun e u' w' => (∃ r, e = .returned r) ∧ u' = .returning ∧ w' = w
  hit : ∀ (c : Ctx) (h : Asc) (N id : Nat) (k' : IntKind) (n' n : Int), HeapRep c h → CtxOk c → (∀ i, c.A i → i < N) → get? h id = some (.int k' n') → ¬ c.G id →
    CallsD P fd #[.pointer (some ⟨c.ρ id, 0, none⟩)] (.panicking (pan (.iface te (.int .i64 n)))) c.w fun e u' w' => (∃ r, e = .returned r) ∧ u' = .panicking [{ v := .iface te (.int .i64 n), recovered := true }] ∧ ∃ c' ns, c'.w = w' ∧ Out c h (putL h id (.int .i64 n)) ns c' ∧ ∀ i, c'.A i → i < N
/-! What a deferred function that recovers needs. -/
end Go.V
