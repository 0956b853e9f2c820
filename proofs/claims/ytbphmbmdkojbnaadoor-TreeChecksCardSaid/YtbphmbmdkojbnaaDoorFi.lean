
/- States said in weaker words. -/
import Derived.Test.YtbphmbmdkojbnaaDoorFh
set_option linter.unusedSimpArgs false
set_option linter.unusedVariables false
namespace Go.V
open Go.RowKit Go.L Go.Chain
/-- What is u is also a. -/
def Imp (a u : AV) : Prop := ∀ c m vs, Rep c u m vs → Rep c a m vs
theorem Imp.refl (a : AV) : Imp a a := fun _ _ _ h => h
theorem Imp.of_eq {a u : AV} (h : a = u) : Imp a u := h ▸ Imp.refl a
theorem Imp.rel {a u : AV} (h : RelA (fun _ => False) (fun i => i) a u) : Imp a u := fun c m vs hu =>
  hu.pass (p := false) (q := false) (c' := c) ⟨rfl, fun i hi => hi.elim, fun i hi => hi.elim, fun i hi => hi.elim, fun b hb _ => hb, fun _ => Nat.le_refl _⟩ h (fun e => by cases e) (fun e => by cases e)
theorem Imp.nil {fr : Bool} {sz : Nat} {f : Nat → AV} : Imp (.rsl fr 0 sz f) (.val (.slice none 0 0)) := fun _ _ _ hu => ⟨none, 0, hu.1, Nat.le_refl _, Nat.zero_le _, .inl rfl⟩
theorem Imp.emp {fr : Bool} {sz : Nat} {f : Nat → AV} : Imp (.rsl fr 0 sz f) .emp := fun _ _ _ hu => by
  obtain ⟨ad, hu⟩ := hu
  exact ⟨ad, 0, hu, Nat.le_refl _, Nat.zero_le _, .inl rfl⟩
theorem Imp.pair {a b x y : AV} (h1 : Imp a x) (h2 : Imp b y) : Imp (.pair a b) (.pair x y) := fun c m vs hu => by
  cases m <;> obtain ⟨p, q, e, h3, h4⟩ := hu <;> exact ⟨p, q, e, h1 c _ _ h3, h2 c _ _ h4⟩
theorem Imp.tup {a x : AV} (h : Imp a x) : Imp (.tup a) (.tup x) := fun c m vs hu => by
  cases m
  · exact hu
  · obtain ⟨xs, e, hx⟩ := hu; exact ⟨xs, e, h c _ _ hx⟩
  · obtain ⟨xs, e, hx⟩ := hu; exact ⟨xs, e, h c _ _ hx⟩
theorem Imp.fn {f : Fn} {a b x y : AV} (h1 : Imp a x) (h2 : Imp b y) : Imp (.fn f a b) (.fn f x y) := fun c m vs hu => by
  obtain ⟨fs, cs, e, h3, h4⟩ := hu
  exact ⟨fs, cs, e, h1 c _ _ h3, h2 c _ _ h4⟩
theorem Imp.arr {n m sz : Nat} {f k : Nat → AV} (hn : n = m) (h : ∀ i, i < n → Imp (f i) (k i)) : Imp (.arr n sz f) (.arr m sz k) := fun c md vs hu => by
  subst hn
  cases md
  · exact ⟨hu.1, fun i hi => h i hi c _ _ (hu.2 i hi)⟩
  · obtain ⟨xs, e, h2, h3⟩ := hu; exact ⟨xs, e, h2, fun i hi => h i hi c _ _ (h3 i hi)⟩
  · obtain ⟨xs, e, h2, h3⟩ := hu; exact ⟨xs, e, h2, fun i hi => h i hi c _ _ (h3 i hi)⟩
theorem Imp.rsl {fr fr' : Bool} {n m sz : Nat} {f k : Nat → AV} (hn : n = m) (hf : fr = true → fr' = true) (h : ∀ i, i < n → Imp (f i) (k i)) : Imp (.rsl fr n sz f) (.rsl fr' m sz k) := fun c md vs hu => by
  subst hn
  obtain ⟨a, cap, e, h2, h3, h4⟩ := hu
  refine ⟨a, cap, e, h2, h3, ?_⟩
  rcases h4 with h4 | ⟨b, o, xs, e1, hS, hB, hc, hl, hx⟩
  · exact .inl h4
  · exact .inr ⟨b, o, xs, e1, hS, fun e => hB (hf e), hc, hl, fun i hi => h i hi c _ _ (hx i hi)⟩
theorem Imp.rptr {fr fr' : Bool} {a x : AV} (hf : fr = true → fr' = true) (h : Imp a x) : Imp (.rptr fr a) (.rptr fr' x) := fun c md vs hu => by
  obtain ⟨b, o, xs, e, hS, hB, hc, hx⟩ := hu
  exact ⟨b, o, xs, e, hS, fun e => hB (hf e), hc, h c _ _ hx⟩
def EnvI (e : Asc) : Asc → Prop
  | [] => True
  | (t, v) :: r => (∃ u, get? e t = some u ∧ Imp v u) ∧ EnvI e r
def HeapI (h : Asc) : Asc → Prop
  | [] => True
  | (t, v) :: r => (∃ u, get? h t = some u ∧ Imp v u ∧ v.size = u.size) ∧ HeapI h r
theorem EnvI.nil {e : Asc} : EnvI e [] := trivial
theorem EnvI.cons {e r : Asc} {t : Nat} {v u : AV} (h : get? e t = some u) (h1 : Imp v u) (h2 : EnvI e r) : EnvI e ((t, v) :: r) := ⟨⟨u, h, h1⟩, h2⟩
theorem HeapI.nil {e : Asc} : HeapI e [] := trivial
theorem HeapI.cons {e r : Asc} {t : Nat} {v u : AV} (h : get? e t = some u) (h1 : Imp v u) (h3 : v.size = u.size) (h2 : HeapI e r) : HeapI e ((t, v) :: r) := ⟨⟨u, h, h1, h3⟩, h2⟩
theorem envI_get {e : Asc} : ∀ {e' : Asc}, EnvI e e' → ∀ t v, get? e' t = some v → ∃ u, get? e t = some u ∧ Imp v u
  | [], _, t, v, h => by cases h
  | (k, w) :: r, h, t, v, hg => by
    rw [get?_cons] at hg
    by_cases e : k = t
    · rw [if_pos e] at hg; cases hg; subst e; exact h.1
    · rw [if_neg e] at hg; exact envI_get h.2 t v hg
theorem heapI_get {e : Asc} : ∀ {e' : Asc}, HeapI e e' → ∀ t v, get? e' t = some v → ∃ u, get? e t = some u ∧ Imp v u ∧ v.size = u.size
  | [], _, t, v, h => by cases h
  | (k, w) :: r, h, t, v, hg => by
    rw [get?_cons] at hg
    by_cases e : k = t
    · rw [if_pos e] at hg; cases hg; subst e; exact h.1
    · rw [if_neg e] at hg; exact heapI_get h.2 t v hg
theorem Out.imp {c0 c : Ctx} {h0 h h' : Asc} {ns : List Nat} (o : Out c0 h0 h ns c) (hi : HeapI h h') : Out c0 h0 h' ns c := by
  refine ⟨o.le, o.B, o.A, ⟨fun id av hg => ?_, fun id av hg hG => ?_, fun id av hg hG => ?_, fun id av hg hG => ?_, fun i j a b ha hb gi gj e => ?_⟩, o.ok, o.os, o.tape, o.output, o.size, o.frame, fun id av hg hG => ?_, o.newS⟩
  · obtain ⟨u, h1, _⟩ := heapI_get hi id av hg
    exact o.heap.A id u h1
  · obtain ⟨u, h1, h2, _⟩ := heapI_get hi id av hg
    obtain ⟨cs, t, xs, ys, q1, q2, q3⟩ := o.heap.obj id u h1 hG
    exact ⟨cs, t, xs, ys, q1, q2, h2 c _ _ q3⟩
  · obtain ⟨u, h1, _, h3⟩ := heapI_get hi id av hg
    rw [h3]; exact o.heap.gh id u h1 hG
  · obtain ⟨u, h1, _⟩ := heapI_get hi id av hg
    exact o.heap.nS id u h1 hG
  · obtain ⟨u, h1, _⟩ := heapI_get hi i a ha
    obtain ⟨v, h2, _⟩ := heapI_get hi j b hb
    exact o.heap.inj i j u v h1 h2 gi gj e
  · obtain ⟨u, h1, _⟩ := heapI_get hi id av hg
    exact o.own id u h1 hG
theorem Sim.imp {F : Fr} {e h g e' h' : Asc} {N : Nat} (he : EnvI e e') (hh : HeapI h h') : ∀ a w, Sim F ⟨e, h, g, N⟩ a w → Sim F ⟨e', h', g, N⟩ a w := by
  rintro a w ⟨c, ns, rfl, hout, hen, hA, r⟩
  refine ⟨c, ns, rfl, hout.imp hh, ⟨fun t v hv => ?_, hen.glob⟩, hA, r⟩
  obtain ⟨u, h1, h2⟩ := envI_get he t v hv
  obtain ⟨q1, q2⟩ := hen.slot t u h1
  exact ⟨q1, h2 c _ _ q2⟩
/-- A contract holds of what its arguments say more closely. -/
theorem Ok.args {P : Program} {f : FuncId} {g h : Asc} {args args' : AV} {R : AV → Asc → Prop} (k : Ok P f g h args R) (hi : Imp args args') : Ok P f g h args' R := fun c hg hh hc hB hA vs hvs => k c hg hh hc hB hA vs (hi c _ _ hvs)
/-- A result said in weaker words. -/
theorem Ok.imp {P : Program} {f : FuncId} {g h : Asc} {args : AV} {R R' : AV → Asc → Prop} (k : Ok P f g h args R) (hR : ∀ r h', R r h' → ∃ r', Imp r' r ∧ R' r' h') : Ok P f g h args R' := by
  intro c hg hh hc hB hA vs hvs
  refine (k c hg hh hc hB hA vs hvs).mono fun e w' h => ?_
  obtain ⟨c', v, r, h', ns, e1, e2, ho, hr, hR1⟩ := h
  obtain ⟨r', q1, q2⟩ := hR r h' hR1
  exact ⟨c', v, r', h', ns, e1, e2, ho, q1 c' _ _ hr, q2⟩
theorem ObjAt.cut {c : Ctx} {b n m sz : Nat} {f : Nat → AV} (h : ObjAt c b (.arr m sz f)) (hn : n ≤ m) : ObjAt c b (.arr n sz f) := by
  obtain ⟨cs, t, xs, ys, h1, h2, h3, h4⟩ := h
  have hm := Nat.mul_le_mul_right sz hn
  refine ⟨cs, t, xs.take (n * sz), xs.drop (n * sz) ++ ys, h1, by rw [h2, ← List.append_assoc, List.take_append_drop], by rw [List.length_take]; omega, fun i hi => ?_⟩
  have h5 := h4 i (by omega)
  have hi2 := Nat.mul_le_mul_right sz (show i + 1 ≤ n from hi)
  rw [Nat.add_mul, Nat.one_mul] at hi2
  have e : sub (xs.take (n * sz)) (i * sz) sz = sub xs (i * sz) sz := by
    have := sub_sub xs 0 (n * sz) (i * sz) sz (by omega)
    simpa [sub] using this
  rw [e]; exact h5
/-- Only the first elements of an object are spoken of any more. -/
theorem Sim.cut {F : Fr} {e h g h' : Asc} {N : Nat} (id n : Nat) {m sz : Nat} {f : Nat → AV} (hi : get? h id = some (.arr m sz f)) (hn : n ≤ m) (hp : putK h id (.arr n sz f) some = some h') : ∀ a w, Sim F ⟨e, h, g, N⟩ a w → Sim F ⟨e, h', g, N⟩ a w := by
  rw [putK_eq] at hp
  cases hp
  rintro a w ⟨c, ns, rfl, o, hen, hA, r⟩
  have hget : ∀ i av, get? (putL h id (.arr n sz f)) i = some av → ∃ u, get? h i = some u ∧ av.size ≤ u.size ∧ (∀ b, ObjAt c b u → ObjAt c b av) := fun i av hg => by
    rw [get?_putL] at hg
    by_cases e : id = i
    · subst e
      rw [if_pos rfl] at hg
      cases hg
      exact ⟨_, hi, Nat.mul_le_mul_right sz hn, fun b hb => hb.cut hn⟩
    · rw [if_neg e] at hg
      exact ⟨av, hg, Nat.le_refl _, fun _ h => h⟩
  refine ⟨c, ns, rfl, ⟨o.le, o.B, o.A, ⟨fun id av hg => ?_, fun id av hg hG => ?_, fun id av hg hG => ?_, fun id av hg hG => ?_, fun i j a b ha hb gi gj e => ?_⟩, o.ok, o.os, o.tape, o.output, o.size, o.frame, fun id av hg hG => ?_, o.newS⟩, hen, hA, r⟩
  · obtain ⟨u, h1, _⟩ := hget id av hg
    exact o.heap.A id u h1
  · obtain ⟨u, h1, _, h3⟩ := hget id av hg
    exact h3 _ (o.heap.obj id u h1 hG)
  · obtain ⟨u, h1, h2, _⟩ := hget id av hg
    have := o.heap.gh id u h1 hG
    omega
  · obtain ⟨u, h1, _⟩ := hget id av hg
    exact o.heap.nS id u h1 hG
  · obtain ⟨u, h1, _⟩ := hget i a ha
    obtain ⟨v, h2, _⟩ := hget j b hb
    exact o.heap.inj i j u v h1 h2 gi gj e
  · obtain ⟨u, h1, _⟩ := hget id av hg
    exact o.own id u h1 hG
/-- A drawn region, one operation of which takes the objects B. -/
theorem VC.drawmB {F : Fr} {id : Nat} {l : List Oper} {e h g : Asc} {N : Nat} {Q : Exit → St → Prop} (B : Asc) (plan : List (Nat × Nat)) (tail : List Nat) (hBd : (keys B).all (fun i => !memB i (keys h)) = true) (hm : F.P.follows .mixedOrders = true) (hst : (drawMB l.toArray F.n plan tail && freeB (keys e) (dstsOf l.toArray (mkP plan))) = true)
    {tops : List Oper} (htops : topsO l.toArray tail some = some tops)
    (hD : DSeq F.P l.toArray g e h (mkP plan) [] N B (fun its N' B => Seq F l.toArray tops (V.drawn its e (B ++ h) g N') (Q .normal))) : VC F (.region id l.toArray true) Q ⟨e, B ++ h, g, N⟩ := by
  rw [Bool.and_eq_true] at hst
  obtain ⟨t, h1, h2⟩ := topsO_ok htops
  cases h2
  refine VC.drawn (B := B) (mkP plan) tail (fun i av hi => ?_) hm (drawM_ok hst.1) (by rw [dropO_eq, drop_free hst.2]) h1 hD
  have := List.all_eq_true.1 hBd i (get?_keys hi)
  refine get?_none fun hk => ?_
  rw [memB_ok.2 hk] at this; cases this
theorem DSeq.eata {P : Program} {ops : Array Oper} {g e0 h0 : Asc} {j : Nat} {anc : List Nat} {r : List (Nat × List Nat)} {its its' : List It} {N : Nat} {b : Nat × AV} {B : Asc} {K : List It → Nat → Asc → Prop} {eL hL hB : Asc} (m : Bool) {T : List (Option TI)} (hT : TabOk P T) {d : Tmp} {op : Op} {ty : TypeId} {pos : String} {af : Array Edge} {gd : Option (Nat × Bool)} {v u : AV} {ps : List Prop} (ho : ops[j]? = some ⟨some d, op, ty, pos, af, gd⟩)
    (hE : selEO (fun i => memB i anc) e0 its some = some eL) (hH : selHO (fun i => memB i anc) h0 its some = some hL) (hHB : selHO (fun i => memB i anc) ((b :: B) ++ h0) its some = some hB)
    (he : evalOp m T g eL hB N op = some ⟨ps, some v, (N, u) :: hL, 1⟩) (hp : AllP ps) (hw : wants ops ⟨some d, op, ty, pos, af, gd⟩ eL = some true) (hd : notStore op = true)
    (hs : snocO its ⟨j, d, v, [(N, u)]⟩ some = some its') (h : DSeq P ops g e0 h0 r its' (N + 1) [] K) : DSeq P ops g e0 h0 ((j, anc) :: r) its N (b :: B) K := by
  rw [selEO_eq] at hE
  rw [selHO_eq] at hH hHB
  rw [snocO_eq] at hs
  cases hE; cases hH; cases hHB; cases hs
  refine .eat _ ⟨j, d, v, [(N, u)]⟩ (N + 1) [N] ho rfl ⟨hw, rfl, evalOp_ok hT (by cases op <;> first | rfl | cases hd) he hp⟩ (fun i hi => ?_) (fun i hi => ?_) (Nat.le_succ _) h
  · rw [List.mem_singleton.1 hi]; exact ⟨List.mem_cons_self, Nat.le_refl _⟩
  · rcases List.mem_cons.1 hi with e | e
    · rw [e]; exact .inl ⟨Nat.le_refl _, Nat.lt_succ_self _⟩
    · cases e
/-- One object, said in weaker words. -/
theorem Sim.impO {F : Fr} {e h g h' : Asc} {N : Nat} (id : Nat) {u v : AV} (hi : get? h id = some u) (hI : Imp v u) (hs : v.size = u.size) (hp : putK h id v some = some h') : ∀ a w, Sim F ⟨e, h, g, N⟩ a w → Sim F ⟨e, h', g, N⟩ a w := by
  rw [putK_eq] at hp
  cases hp
  rintro a w ⟨c, ns, rfl, o, hen, hA, r⟩
  have hget : ∀ i av, get? (putL h id v) i = some av → ∃ u, get? h i = some u ∧ Imp av u ∧ av.size = u.size := fun i av hg => by
    rw [get?_putL] at hg
    by_cases e : id = i
    · subst e
      rw [if_pos rfl] at hg
      cases hg
      exact ⟨_, hi, hI, hs⟩
    · rw [if_neg e] at hg
      exact ⟨av, hg, Imp.refl _, rfl⟩
  refine ⟨c, ns, rfl, ⟨o.le, o.B, o.A, ⟨fun id av hg => ?_, fun id av hg hG => ?_, fun id av hg hG => ?_, fun id av hg hG => ?_, fun i j a b ha hb gi gj e => ?_⟩, o.ok, o.os, o.tape, o.output, o.size, o.frame, fun id av hg hG => ?_, o.newS⟩, hen, hA, r⟩
  · obtain ⟨u, h1, _⟩ := hget id av hg
    exact o.heap.A id u h1
  · obtain ⟨u, h1, h2, _⟩ := hget id av hg
    obtain ⟨cs, t, xs, ys, q1, q2, q3⟩ := o.heap.obj id u h1 hG
    exact ⟨cs, t, xs, ys, q1, q2, h2 c _ _ q3⟩
  · obtain ⟨u, h1, _, h3⟩ := hget id av hg
    rw [h3]; exact o.heap.gh id u h1 hG
  · obtain ⟨u, h1, _⟩ := hget id av hg
    exact o.heap.nS id u h1 hG
  · obtain ⟨u, h1, _⟩ := hget i a ha
    obtain ⟨v, h2, _⟩ := hget j b hb
    exact o.heap.inj i j u v h1 h2 gi gj e
  · obtain ⟨u, h1, _⟩ := hget id av hg
    exact o.own id u h1 hG
def setIt2 {α : Type} : List It → Nat → AV → (List It → α) → α
  | [], _, _, k => k []
  | ⟨j, d', v, n⟩ :: r, d, u, k => bif Nat.beq d' d then k (⟨j, d', u, n⟩ :: r) else setIt2 r d u fun r' => k (⟨j, d', v, n⟩ :: r')
theorem setIt2_eq {α : Type} : ∀ {its : List It} {d : Nat} {u : AV} {k : List It → α}, getIt its d = some u → setIt2 its d u k = k its
  | [], _, _, _, h => by cases h
  | ⟨j, d', v, n⟩ :: r, d, u, k, h => by
    unfold getIt at h
    unfold setIt2
    cases e : Nat.beq d' d with
    | true => rw [e] at h; cases h; rfl
    | false => rw [e] at h; exact setIt2_eq (k := fun r' => k (⟨j, d', v, n⟩ :: r')) h
theorem DSeq.lit2 {P : Program} {ops : Array Oper} {g e0 h0 : Asc} {j : Nat} {anc : List Nat} {r : List (Nat × List Nat)} {its its' : List It} {N : Nat} {B : Asc} {K : List It → Nat → Asc → Prop} {o : Oper} {d : Tmp} {b b' : Bool} (ho : ops[j]? = some o) (hd : gslot ops o.guard = some d) (hu : getIt its d = some (.bool b)) (hb : b = b')
    (hs : setIt2 its d (.bool b') some = some its') (hk : DSeq P ops g e0 h0 ((j, anc) :: r) its' N B K) : DSeq P ops g e0 h0 ((j, anc) :: r) its N B K := by
  subst hb
  rw [setIt2_eq hu] at hs
  cases hs
  exact hk
theorem DSeq.litC2 {P : Program} {ops : Array Oper} {g e0 h0 : Asc} {j : Nat} {anc : List Nat} {r : List (Nat × List Nat)} {its i1 i2 : List It} {N : Nat} {B : Asc} {K : List It → Nat → Asc → Prop} {o : Oper} {d : Tmp} {b : Bool} (ho : ops[j]? = some o) (hd : gslot ops o.guard = some d) (hu : getIt its d = some (.bool b))
    (hs1 : setIt2 its d (.bool true) some = some i1) (hs2 : setIt2 its d (.bool false) some = some i2) (h1 : b = true → DSeq P ops g e0 h0 ((j, anc) :: r) i1 N B K) (h2 : b = false → DSeq P ops g e0 h0 ((j, anc) :: r) i2 N B K) : DSeq P ops g e0 h0 ((j, anc) :: r) its N B K := by
  cases b with
  | true => exact DSeq.lit2 ho hd hu rfl hs1 (h1 rfl)
  | false => exact DSeq.lit2 ho hd hu rfl hs2 (h2 rfl)
theorem litT_ {b : Bool} (_ : true = b) : True := trivial
theorem litF_ {b : Bool} (_ : false = b) : True := trivial
theorem nd_true {p : Prop} [Decidable p] (h : ¬ p) : (!decide p) = true := by simp [h]
theorem nd_false {p : Prop} [Decidable p] (h : p) : (!decide p) = false := by simp [h]
theorem LT2_ {b b' : Bool} (h : b = b' := by first | with_reducible exact decide_eq_true (by omega) | with_reducible exact decide_eq_false (by omega) | with_reducible exact nd_true (by omega) | with_reducible exact nd_false (by omega)) : b = b' := h
end Go.V
