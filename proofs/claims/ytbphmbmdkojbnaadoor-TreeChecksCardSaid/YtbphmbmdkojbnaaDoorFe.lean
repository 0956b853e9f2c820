
/- Cases that come together again; more steps. -/
import Derived.Test.YtbphmbmdkojbnaaDoorFd
set_option linter.unusedSimpArgs false
set_option linter.unusedVariables false
namespace Go.V
open Go.RowKit Go.L
theorem Seq.mono {F : Fr} {ops : Array Oper} {l : List Oper} {s : St} {K K' : St → Prop} (h : Seq F ops l s K) (hk : ∀ s', K s' → K' s') : Seq F ops l s K' := by
  induction h with
  | nil h => exact .nil (hk _ h)
  | step N' hw ok hn hN hd _ ih => exact .step N' hw ok hn hN hd (ih hk)
  | skip hw hd _ ih => exact .skip hw hd (ih hk)
  | to S' hw ok _ ih => exact .to S' hw ok fun s' hs => ih s' hs hk
  | conv h _ ih => exact .conv h (ih hk)
/-- The rest of a region in cases; the states behind it are one family. -/
theorem Seq.join {F : Fr} {ops : Array Oper} {l : List Oper} {s : St} {y : Code} {Q : Exit → St → Prop} {X : Type} (I : X → St) (J : X → Prop) (h1 : Seq F ops l s (fun s' => ∃ u, J u ∧ ∀ a w, Sim F s' a w → Sim F (I u) a w)) (h2 : ∀ u, J u → VC F y Q (I u)) : Seq F ops l s (thenQ (VC F y Q) Q .normal) :=
  h1.mono fun _ ⟨u, hJ, hc⟩ => VC.conv hc (h2 u hJ)
/-- A test whose arms come together again. -/
theorem VC.joinT {F : Fr} {x y : Code} {Q : Exit → St → Prop} {s : St} {X : Type} (I : X → St) (J : X → Prop) (h1 : VC F x (thenQ (fun s' => ∃ u, J u ∧ ∀ a w, Sim F s' a w → Sim F (I u) a w) Q) s) (h2 : ∀ u, J u → VC F y Q (I u)) : VC F x (thenQ (VC F y Q) Q) s :=
  h1.mono fun e s' hq => by
    cases e <;> try exact hq
    obtain ⟨u, hJ, hc⟩ := hq
    exact VC.conv hc (h2 u hJ)
/-- A block (a loop in it) with several ends; the states behind it are one family. -/
theorem VC.join {F : Fr} {x y : Code} {Q : Exit → St → Prop} {s : St} {id : Nat} {X : Type} (I : X → St) (J : X → Prop) (h1 : VC F x (inQ id (thenQ (fun s' => ∃ u, J u ∧ ∀ a w, Sim F s' a w → Sim F (I u) a w) Q)) s) (h2 : ∀ u, J u → VC F y Q (I u)) : VC F x (inQ id (thenQ (VC F y Q) Q)) s :=
  h1.mono fun e s' hq => by
    cases e with
    | exit i =>
      unfold inQ at hq ⊢
      cases hb : Nat.beq i id with
      | true =>
        simp only [hb, cond_true] at hq ⊢
        obtain ⟨u, hJ, hc⟩ := hq
        exact VC.conv hc (h2 u hJ)
      | false => simp only [hb, cond_false] at hq ⊢; exact hq
    | normal =>
      obtain ⟨u, hJ, hc⟩ := hq
      exact VC.conv hc (h2 u hJ)
    | _ => exact hq
end Go.V
namespace Go.V
open Go.RowKit Go.L
section
variable {α : Type}
def keepO : Asc → List Nat → (Asc → α) → α
  | [], _, k => k []
  | (i, v) :: r, l, k => bif memB i l then keepO r l (fun r' => k ((i, v) :: r')) else keepO r l k
theorem keepO_eq : ∀ (h : Asc) (l : List Nat) (k : Asc → α), keepO h l k = k (keepL h l)
  | [], _, _ => rfl
  | (i, v) :: r, l, k => by
    unfold keepO keepL
    cases memB i l
    · simp only [cond_false]; rw [keepO_eq]
    · simp only [cond_true]; rw [keepO_eq]
end
/-- The same objects in another order. -/
theorem Sim.heap {F : Fr} {e h h' g : Asc} {N : Nat} (hh : ∀ i, get? h' i = get? h i) : ∀ a w, Sim F ⟨e, h, g, N⟩ a w → Sim F ⟨e, h', g, N⟩ a w := by
  rintro a w ⟨c, ns, rfl, ho, r⟩
  exact ⟨c, ns, rfl, ho.shrink fun id av hi => by rw [← hh]; exact hi, r⟩
/-- A region that draws its order, one operation of which takes the objects eat. -/
theorem VC.drawM {F : Fr} {id : Nat} {l : List Oper} {e h g : Asc} {N : Nat} {Q : Exit → St → Prop} (plan : List (Nat × List Nat)) (tail : List Nat) (eat : List Nat) (hm : F.P.follows .mixedOrders = true) (hst : drawB l.toArray F.n plan tail = true) {e0 : Asc} (he0 : dropO e (dstsOf l.toArray plan) some = some e0)
    {tops : List Oper} (htops : topsO l.toArray tail some = some tops) {B hA : Asc} (hB : keepO h eat some = some B) (hDr : dropO h eat some = some hA)
    (hD : DSeq F.P l.toArray g e0 hA plan [] N B (fun its N' B => Seq F l.toArray tops (V.drawn its e0 (B ++ hA) g N') (Q .normal))) : VC F (.region id l.toArray true) Q ⟨e, h, g, N⟩ := by
  obtain ⟨t, h1, h2⟩ := topsO_ok htops
  cases h2
  rw [keepO_eq] at hB
  rw [dropO_eq] at hDr
  cases hB; cases hDr
  refine VC.conv (Sim.heap fun i => ?_) (VC.drawn (B := keepL h eat) plan tail (fun i av hi => ?_) hm hst he0 h1 hD)
  · rw [get?_app, get?_keep, get?_drop]
    by_cases hm : memB i eat = true
    · rw [if_pos hm, if_pos hm]; cases get? h i <;> rfl
    · rw [if_neg hm, if_neg hm]; rfl
  · rw [get?_keep] at hi
    rw [get?_drop]
    by_cases hm : memB i eat = true
    · rw [if_pos hm]
    · rw [if_neg hm] at hi; cases hi
def frK (N : Nat) : List Nat → List Nat
  | [] => []
  | i :: r => bif Nat.ble N i then i :: frK N r else frK N r
theorem frK_ok {N i : Nat} : ∀ {l : List Nat}, i ∈ frK N l ↔ i ∈ l ∧ N ≤ i
  | [] => by simp [frK]
  | k :: r => by
    unfold frK
    cases hb : Nat.ble N k with
    | true =>
      have := Nat.le_of_ble_eq_true hb
      simp only [cond_true, List.mem_cons, frK_ok]
      constructor
      · rintro (rfl | h)
        · exact ⟨.inl rfl, this⟩
        · exact ⟨.inr h.1, h.2⟩
      · rintro ⟨rfl | h, h2⟩
        · exact .inl rfl
        · exact .inr ⟨h, h2⟩
    | false =>
      have : ¬ N ≤ k := fun h => by rw [Nat.ble_eq_true_of_le h] at hb; cases hb
      simp only [cond_false, List.mem_cons, frK_ok]
      constructor
      · rintro h; exact ⟨.inr h.1, h.2⟩
      · rintro ⟨rfl | h, h2⟩
        · exact absurd h2 this
        · exact ⟨h, h2⟩
/-- A call that takes objects of the caller's, shown once for all orders: their like behind it are new numbers. -/
theorem call_detE {P : Program} {e h g : Asc} {N : Nat} {d : Option Tmp} {ty : TypeId} {pos : String} {af : Array Edge} {gd : Option (Nat × Bool)} {fid : FuncId} {fn : Func} {callee : Operand} {xs : Array Operand} {tys : Array TypeId} {u1 u2 ax args argsC r0 v : AV} {g' hin h1 hn : Asc} {N' : Nat}
    (hce : ev g e callee = some (.fn (.func fid) u1 u2)) (hax : evs g e xs.toList = some ax) (hc1 : isChain u1 = true) (hc2 : isChain ax = true) (hcat : catC u1 (catC ax u2) = argsC)
    (hf : P.funcs[fid]? = some fn) (hbd : fn.body.isNone = false) (hnm : (fn.name == "runtime.NumGoroutine") = false) (ct : Ok P fid g' hin args (fun r h' => r = r0 ∧ h' = h1))
    (hg' : ∀ x v, get? g' x = some v → get? g x = some v ∧ NoFr v ∧ ∀ D σ, RelA D σ v v) (bw : Bool) (σ τ : List (Nat × Nat)) (hσ : passB σ (keys hin) = true)
    (hv : View h (fun id => bw = true ∧ memB id (passed σ hin) = false) (fun i => memB i (keys hin) = true) (sg σ) args argsC) (hnf : NoFr args)
    (hhin : HeapLe (fun i => memB i (keys hin) = true) (sg σ) h hin) (hnfh : ∀ i av, get? hin i = some av → NoFr av) (hback : Back bw σ τ hin N N' r0 h1 v hn) :
    OpOk P ⟨d, .call ⟨.value callee, xs, tys⟩, ty, pos, af, gd⟩ g e h (some v) (hn ++ dropL h (passed σ hin)) (frK N (keys hn)) := by
  subst hcat
  intro c a hen hh hc hn' K Q hK
  refine call_core (N := N) (S' := fun v' hn1 N1 => v' = v ∧ hn1 = hn ∧ N1 = N') (o := ⟨d, .call ⟨.value callee, xs, tys⟩, ty, pos, af, gd⟩) rfl hce hax hc1 hc2 hf hbd hnm ct hg' σ bw hσ hv hnf hhin hnfh (fun r h' hr => ?_) hen hh hc (fun v' hn1 N1 hS i hi h1 h2 hA => ?_) fun v' hn1 N1 c2 x hS hNN ho hx hi => ?_
  · obtain ⟨rfl, rfl⟩ := hr
    exact ⟨v, hn, τ, N', hback, rfl, rfl, rfl⟩
  · obtain ⟨rfl, rfl, rfl⟩ := hS
    exact hn' i (frK_ok.2 ⟨memB_ok.1 hi, h1⟩) hA
  · obtain ⟨rfl, rfl, rfl⟩ := hS
    refine hK c2 x { ho with A := fun i hA => ?_ } fun y hy => by cases hy; exact hx
    rcases ho.A i hA with h1 | h1
    · exact .inl h1
    · rcases hi i (memB_ok.2 h1) with h2 | h2
      · exact .inr (frK_ok.2 ⟨h1, h2.1⟩)
      · exact .inl h2
/-- New numbers lie below N'; the others are among ks. -/
def eatB (N N' : Nat) (l ks : List Nat) : Bool := Nat.ble N N' && l.all fun i => (Nat.ble N i && Nat.blt i N') || memB i ks
theorem eatB_ok {N N' : Nat} {l ks : List Nat} (h : eatB N N' l ks = true) : N ≤ N' ∧ ∀ i ∈ l, (N ≤ i ∧ i < N') ∨ i ∈ ks := by
  simp only [eatB, Bool.and_eq_true] at h
  refine ⟨Nat.le_of_ble_eq_true h.1, fun i hi => ?_⟩
  have := List.all_eq_true.1 h.2 i hi
  rw [Bool.or_eq_true, Bool.and_eq_true] at this
  exact this.imp (fun h => ⟨Nat.le_of_ble_eq_true h.1, by simpa [Nat.blt_eq] using h.2⟩) memB_ok.1
def lowB (N' : Nat) (l : List Nat) : Bool := l.all fun i => Nat.blt i N'
/-- The step of a walk: a call that takes the objects hin (σ: its numbers to ours; τ: our numbers behind it to its). -/
theorem Seq.callo {F : Fr} {ops : Array Oper} {l : List Oper} {e h g : Asc} {N : Nat} {K : St → Prop} {d : Tmp} {ty : TypeId} {pos : String} {af : Array Edge} {gd : Option (Nat × Bool)} {fid : FuncId} {fn : Func} {callee : Operand} {xs : Array Operand} {tys : Array TypeId} {u1 u2 ax args argsC r0 : AV} {g' hin h1 hr h2 : Asc} (bw : Bool) (σ τ : List (Nat × Nat)) (v : AV) (hn : Asc) (N' : Nat)
    (ct : Ok F.P fid g' hin args (fun r h' => r = r0 ∧ h' = h1)) (hf : F.P.funcs[fid]? = some fn) (hG : GOk g) (hg' : subG g' g)
    (hce : V.ev g e callee = some (.fn (.func fid) u1 u2)) (hax : evs g e xs.toList = some ax) (hc1 : isChain u1 = true) (hc2 : isChain ax = true) (hcat : catC u1 (catC ax u2) = argsC)
    (hbd : fn.body.isNone = false) (hnm : (fn.name == "runtime.NumGoroutine") = false) (hw : wants ops ⟨some d, .call ⟨.value callee, xs, tys⟩, ty, pos, af, gd⟩ e = some true) (hd2 : Nat.blt d F.n = true)
    (hσ : passB σ (keys hin) = true) (hdr : dropO h (passed σ hin) some = some hr) (hcat2 : catO hn hr some = some h2) (hfr : (Nat.ble N N' && lowB N' (keys hn)) = true)
    (hv : View h (fun id => bw = true ∧ memB id (passed σ hin) = false) (fun i => memB i (keys hin) = true) (sg σ) args argsC) (hnf : NoFr args)
    (hhin : HeapLe (fun i => memB i (keys hin) = true) (sg σ) h hin) (hnfh : ∀ i av, get? hin i = some av → NoFr av) (hback : Back bw σ τ hin N N' r0 h1 v hn)
    (hk : Seq F ops l ⟨(d, v) :: e, h2, g, N'⟩ K) : Seq F ops (⟨some d, .call ⟨.value callee, xs, tys⟩, ty, pos, af, gd⟩ :: l) ⟨e, h, g, N⟩ K := by
  rw [dropO_eq] at hdr
  rw [catO_eq] at hcat2
  cases hdr; cases hcat2
  rw [Bool.and_eq_true] at hfr
  refine Seq.step (s := ⟨e, h, g, N⟩) N' hw (call_detE hce hax hc1 hc2 hcat hf hbd hnm ct (hG.hand hg') bw σ τ hσ hv hnf hhin hnfh hback) (fun n hn' => ?_) (Nat.le_of_ble_eq_true hfr.1) hd2 hk
  obtain ⟨q1, q2⟩ := frK_ok.1 hn'
  have := List.all_eq_true.1 hfr.2 n q1
  exact ⟨q2, by simpa [Nat.blt_eq] using this⟩
/-- The same in a region that draws its order: the objects that it takes are those that VC.drawM was told. -/
theorem DSeq.callo {P : Program} {ops : Array Oper} {g e0 h0 : Asc} {j : Nat} {anc : List Nat} {r : List (Nat × List Nat)} {its its' : List It} {N : Nat} {b : Nat × AV} {B : Asc} {K : List It → Nat → Asc → Prop} {eL hL hL2 : Asc} {d : Tmp} {ty : TypeId} {pos : String} {af : Array Edge} {gd : Option (Nat × Bool)} {fid : FuncId} {fn : Func} {callee : Operand} {xs : Array Operand} {tys : Array TypeId} {u1 u2 ax args argsC r0 : AV} {g' hin h1 : Asc} (bw : Bool) (σ τ : List (Nat × Nat)) (v : AV) (hn : Asc) (N' : Nat)
    (ct : Ok P fid g' hin args (fun r h' => r = r0 ∧ h' = h1)) (hf : P.funcs[fid]? = some fn) (hG : GOk g) (hg' : subG g' g) (ho : ops[j]? = some ⟨some d, .call ⟨.value callee, xs, tys⟩, ty, pos, af, gd⟩)
    (hE : selEO (fun i => memB i anc) e0 its some = some eL) (hH : selHO (fun i => memB i anc) h0 its some = some hL) (hH2 : selHO (fun i => memB i anc) ((b :: B) ++ h0) its some = some hL2)
    (hce : V.ev g eL callee = some (.fn (.func fid) u1 u2)) (hax : evs g eL xs.toList = some ax) (hc1 : isChain u1 = true) (hc2 : isChain ax = true) (hcat : catC u1 (catC ax u2) = argsC)
    (hbd : fn.body.isNone = false) (hnm : (fn.name == "runtime.NumGoroutine") = false) (hw : wants ops ⟨some d, .call ⟨.value callee, xs, tys⟩, ty, pos, af, gd⟩ eL = some true)
    (hσ : passB σ (keys hin) = true) (hdr : dropO hL2 (passed σ hin) some = some hL) (hfr : eatB N N' (keys hn) (keys (b :: B)) = true) (hs : snocO its ⟨j, d, v, hn⟩ some = some its')
    (hv : View hL2 (fun id => bw = true ∧ memB id (passed σ hin) = false) (fun i => memB i (keys hin) = true) (sg σ) args argsC) (hnf : NoFr args)
    (hhin : HeapLe (fun i => memB i (keys hin) = true) (sg σ) hL2 hin) (hnfh : ∀ i av, get? hin i = some av → NoFr av) (hback : Back bw σ τ hin N N' r0 h1 v hn)
    (hk : DSeq P ops g e0 h0 r its' N' [] K) : DSeq P ops g e0 h0 ((j, anc) :: r) its N (b :: B) K := by
  rw [selEO_eq] at hE
  rw [selHO_eq] at hH hH2
  rw [snocO_eq] at hs
  rw [dropO_eq] at hdr
  cases hE; cases hH2; cases hs
  simp only [Option.some.injEq] at hH hdr
  obtain ⟨q1, q2⟩ := eatB_ok hfr
  have hop := call_detE (d := some d) (ty := ty) (pos := pos) (af := af) (gd := gd) (tys := tys) hce hax hc1 hc2 hcat hf hbd hnm ct (hG.hand hg') bw σ τ hσ hv hnf hhin hnfh hback
  rw [hdr, ← hH] at hop
  exact .eat _ ⟨j, d, v, hn⟩ N' _ ho rfl ⟨hw, rfl, hop⟩ (fun i hi => frK_ok.1 hi) q2 q1 hk
/-- A contract's result in other words. -/
theorem Ok.res {P : Program} {f : FuncId} {g h : Asc} {args a b : AV} {k : Asc} (ct : Ok P f g h args (fun r h' => r = a ∧ h' = k)) (hab : ∀ c vs, Rep c a .V vs → Rep c b .V vs) : Ok P f g h args (fun r h' => r = b ∧ h' = k) := by
  intro c hg hh hc hB hA vs hvs
  refine (ct c hg hh hc hB hA vs hvs).mono fun e w' hw => ?_
  obtain ⟨c', v, r, h', ns, rfl, rfl, ho, hr, rfl, rfl⟩ := hw
  exact ⟨c', v, b, _, ns, rfl, rfl, ho, hab _ _ hr, rfl, rfl⟩
theorem rep_arr_eq {n sz : Nat} {f k : Nat → AV} (h : ∀ i, i < n → f i = k i) : ∀ c vs, Rep c (.arr n sz f) .V vs → Rep c (.arr n sz k) .V vs := by
  rintro c vs ⟨xs, e, h1, h2⟩
  exact ⟨xs, e, h1, fun i hi => h i hi ▸ h2 i hi⟩
end Go.V
namespace Go.V
open Go.RowKit Go.L
def NoFrL : Asc → Prop
  | [] => True
  | (_, v) :: r => NoFr v ∧ NoFrL r
theorem noFrL_ok : ∀ {h : Asc}, NoFrL h → ∀ i av, get? h i = some av → NoFr av
  | [], _, i, av, hi => by cases hi
  | (k, v) :: r, h, i, av, hi => by
    rw [get?_cons] at hi
    split at hi
    · cases hi; exact h.1
    · exact noFrL_ok h.2 i av hi
def AllFrL : Asc → Prop
  | [] => True
  | (_, v) :: r => AllFr v ∧ AllFrL r
theorem allFrL_ok : ∀ {h : Asc}, AllFrL h → ∀ i av, get? h i = some av → AllFr av
  | [], _, i, av, hi => by cases hi
  | (k, v) :: r, h, i, av, hi => by
    rw [get?_cons] at hi
    split at hi
    · cases hi; exact h.1
    · exact allFrL_ok h.2 i av hi
theorem back_mk {bw : Bool} {σ τ : List (Nat × Nat)} {hin : Asc} {N N' : Nat} {r : AV} {h' : Asc} {v : AV} {hn : Asc} (h1 : RelA (fun i => memB i (keys hn) = true) (sg τ) v r) (h2 : HeapLe (fun i => memB i (keys hn) = true) (sg τ) h' hn) (h3 : bw = true → AllFr r ∧ AllFrL h') (h4 : backB σ τ hin hn N N' = true) : Back bw σ τ hin N N' r h' v hn :=
  ⟨h1, h2, fun e => ⟨(h3 e).1, allFrL_ok (h3 e).2⟩, h4⟩
theorem setf_size {a u u' : AV} : ∀ {k : Nat}, getf a k = some u → u'.size = u.size → (setf a k u').size = a.size := by
  induction a with
  | pair a b _ ih =>
    intro k hk hs
    cases k with
    | zero =>
      simp only [getf, Option.some.injEq] at hk
      subst hk
      simp [setf, AV.size, hs]
    | succ k => simp [setf, AV.size, ih (by simpa [getf] using hk) hs]
  | int | bool | str | val | emp | nul | arr | ptr | sl | rsl | rptr | tup | fn | ifc => intro k hk; cases k <;> simp [getf] at hk
theorem rep_setf1 {c : Ctx} {a u u' : AV} (hu : ∀ vs, Rep c u .C vs → Rep c u' .C vs) : ∀ {k : Nat} {vs : List Value}, getf a k = some u → Rep c a .C vs → Rep c (setf a k u') .C vs := by
  induction a with
  | pair a b _ ih =>
    intro k vs hk hr
    obtain ⟨x, y, rfl, h1, h2⟩ := hr
    cases k with
    | zero =>
      simp only [getf, Option.some.injEq] at hk
      subst hk
      exact ⟨x, y, rfl, hu _ h1, h2⟩
    | succ k => exact ⟨x, y, rfl, h1, ih (by simpa [getf] using hk) h2⟩
  | int | bool | str | val | emp | nul | arr | ptr | sl | rsl | rptr | tup | fn | ifc => intro k vs hk; cases k <;> simp [getf] at hk
/-- An object's content in other words. -/
theorem Out.swap {c c' : Ctx} {h h' : Asc} {ns : List Nat} {id : Nat} {av av' : AV} (o : Out c h h' ns c') (hi : get? h' id = some av) (hs : av'.size = av.size) (hr : ∀ vs, Rep c' av .C vs → Rep c' av' .C vs) : Out c h (putL h' id av') ns c' := by
  have hc : ∀ i u, get? (putL h' id av') i = some u → (i = id ∧ u = av') ∨ get? h' i = some u := fun i u hu => by
    rw [get?_putL] at hu
    by_cases e : id = i
    · rw [if_pos e] at hu; cases hu; exact .inl ⟨e.symm, rfl⟩
    · rw [if_neg e] at hu; exact .inr hu
  have hk : ∀ i u, get? (putL h' id av') i = some u → ∃ u', get? h' i = some u' := fun i u hu => by
    rcases hc i u hu with ⟨rfl, _⟩ | h
    · exact ⟨av, hi⟩
    · exact ⟨u, h⟩
  refine ⟨o.le, o.B, o.A, ⟨fun i u hu => ?_, fun i u hu hG => ?_, fun i u hu hG => ?_, fun i u hu hG => ?_, fun i j a b hi' hj hgi hgj e => ?_⟩, o.ok, o.os, o.tape, o.output, o.size, o.frame, fun i u hu hG => ?_, o.newS⟩
  · obtain ⟨u', h1⟩ := hk i u hu; exact o.heap.A i u' h1
  · rcases hc i u hu with ⟨rfl, rfl⟩ | h1
    · obtain ⟨cs, t, xs, ys, q1, q2, q3⟩ := o.heap.obj _ _ hi hG
      exact ⟨cs, t, xs, ys, q1, q2, hr _ q3⟩
    · exact o.heap.obj i u h1 hG
  · rcases hc i u hu with ⟨rfl, rfl⟩ | h1
    · rw [hs]; exact o.heap.gh _ _ hi hG
    · exact o.heap.gh i u h1 hG
  · obtain ⟨u', h1⟩ := hk i u hu; exact o.heap.nS i u' h1 hG
  · obtain ⟨a', h1⟩ := hk i a hi'
    obtain ⟨b', h2⟩ := hk j b hj
    exact o.heap.inj i j a' b' h1 h2 hgi hgj e
  · obtain ⟨u', h1⟩ := hk i u hu; exact o.own i u' h1 hG
/-- A nil slice in an object's field becomes an object of length 0. -/
theorem Sim.ghostF {F : Fr} {e h h' g : Asc} {N : Nat} (id k sz : Nat) (f : Nat → AV) {av : AV} (ho : get? h id = some av) (hk : getf av k = some (.val (.slice none 0 0))) (hp : setfK av k (.sl N [] sz 0 0) (fun av' => putK h id av' some) = some h') :
    ∀ a w, Sim F ⟨e, h, g, N⟩ a w → Sim F ⟨e, (N, .arr 0 sz f) :: h', g, N + 1⟩ a w := by
  rw [setfK_eq, putK_eq] at hp
  cases hp
  rintro a w ⟨c, ns, rfl, hout, he, hA, r⟩
  have hN : ¬ c.A N := fun h => by have : N < N := hA N h; omega
  have hne : N ≠ id := fun e => hN (e ▸ hout.heap.A id av ho)
  have ho2 := Out.ghost (N := N) (av := .arr 0 sz f) hout.heap hout.ok hN (by simp [AV.size])
  have ho3 := hout.trans ho2
  have hi3 : get? ((N, AV.arr 0 sz f) :: h) id = some av := by rw [get?_cons, if_neg hne]; exact ho
  have ho4 := ho3.swap (av' := setf av k (.sl N [] sz 0 0)) hi3 (setf_size hk rfl) (fun vs hv => rep_setf1 (u' := .sl N [] sz 0 0) (fun ws hw => by
    have hw : ws = [_] := hw.1
    exact ⟨.inr rfl, .inl ⟨.inr rfl, rfl, none, hw⟩⟩) hk hv)
  refine ⟨{ c with A := fun i => c.A i ∨ i = N, G := fun i => c.G i ∨ i = N }, _, rfl, ho4.shrink fun i u hu => ?_, ⟨fun t v hv => (he.le ho2.le).slot t v hv, (he.le ho2.le).glob⟩, fun i hi => ?_, r⟩
  · rw [get?_putL]
    rw [get?_cons, get?_putL] at hu
    rw [get?_cons]
    by_cases e1 : N = i
    · subst e1
      rw [if_pos rfl] at hu
      rw [if_neg (Ne.symm hne), if_pos rfl]; exact hu
    · rw [if_neg e1] at hu
      rw [if_neg e1]; exact hu
  · show i < N + 1
    rcases hi with hi | hi
    · have : i < N := hA i hi
      omega
    · omega
theorem hlt_ok {h : Asc} {N : Nat} (hb : (keys h).all (fun i => Nat.blt i N) = true) : ∀ i av, get? h i = some av → i < N := fun i av hi => by
  have := List.all_eq_true.1 hb i (get?_keys hi)
  simpa [Nat.blt_eq] using this
def SubL (s : Asc) : Asc → Prop
  | [] => True
  | (k, v) :: r => get? s k = some v ∧ SubL s r
theorem subL_ok {s : Asc} : ∀ {h : Asc}, SubL s h → ∀ i av, get? h i = some av → get? s i = some av
  | [], _, i, av, hi => by cases hi
  | (k, v) :: r, h, i, av, hi => by
    rw [get?_cons] at hi
    by_cases e : k = i
    · rw [if_pos e] at hi; cases hi; subst e; exact h.1
    · rw [if_neg e] at hi; exact subL_ok h.2 i av hi
end Go.V
