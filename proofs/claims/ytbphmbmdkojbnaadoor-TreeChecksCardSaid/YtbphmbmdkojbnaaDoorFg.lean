
/- Results as memory that stays; guards and tests that close by themselves. -/
import Derived.Test.YtbphmbmdkojbnaaDoorFf
set_option linter.unusedSimpArgs false
set_option linter.unusedVariables false
namespace Go.V
open Go.RowKit Go.L
/-- What a value of a call's own objects is, when they are not changed any more. -/
inductive ViewT (H : Asc) : AV → AV → Prop
  | rel {a u : AV} : RelA (fun _ => False) (fun i => i) a u → ViewT H a u
  | sl {id n' sz off n m : Nat} {p : List Step} {av : AV} {f k : Nat → AV} : get? H id = some av → getp av p = some (.arr n' sz k) → AllP (inbL av p) → off + n ≤ n' → m = n → (∀ i, i < n → ViewT H (f i) (k (off + i))) → ViewT H (.rsl true m sz f) (.sl id p sz off n)
  | nil {sz : Nat} {f : Nat → AV} : ViewT H (.rsl true 0 sz f) (.val (.slice none 0 0))
  | emp {sz : Nat} {f : Nat → AV} : ViewT H (.rsl true 0 sz f) .emp
  | ptr {id : Nat} {p : List Step} {av w a : AV} : get? H id = some av → getp av p = some w → AllP (inbL av p) → ViewT H a w → ViewT H (.rptr true a) (.ptr id p)
  | pair {a b x y : AV} : ViewT H a x → ViewT H b y → ViewT H (.pair a b) (.pair x y)
  | tup {a x : AV} : ViewT H a x → ViewT H (.tup a) (.tup x)
  | fn {f : Fn} {a b x y : AV} : ViewT H a x → ViewT H b y → ViewT H (.fn f a b) (.fn f x y)
  | ifc {t : TypeId} {a x : AV} : ViewT H a x → ViewT H (.ifc t a) (.ifc t x)
def stillC (c : Ctx) (H : Asc) : Ctx := { c with S := fun b => c.S b ∨ ∃ i av, get? H i = some av ∧ ¬ c.G i ∧ True ∧ c.ρ i = b }
theorem ViewT.rep {H : Asc} {c : Ctx} (hh : HeapRep c H) (hB : ∀ id av, get? H id = some av → ¬ c.G id → c.B ≤ c.ρ id) {a u : AV} (h : ViewT H a u) : ∀ {m : Md} {vs : List Value}, Rep c u m vs → Rep (stillC c H) a m vs := by
  have hp : Pass false false c (stillC c H) (fun _ => False) (fun i => i) := ⟨rfl, fun i hi => hi.elim, fun i hi => hi.elim, fun i hi => hi.elim, fun b hb _ => .inl hb, fun _ => Nat.le_refl _⟩
  induction h with
  | rel hr => intro m vs hu; exact hu.pass hp hr (fun e => by cases e) (fun e => by cases e)
  | nil =>
    intro m vs hu
    exact ⟨none, 0, hu.1, Nat.le_refl _, Nat.zero_le _, .inl rfl⟩
  | emp =>
    intro m vs hu
    obtain ⟨ad, hu⟩ := hu
    exact ⟨ad, 0, hu, Nat.le_refl _, Nat.zero_le _, .inl rfl⟩
  | @sl id n' sz off n m p av f k h1 h2 h3 h4 hm h6 ih =>
    subst hm
    intro md vs hu
    obtain ⟨_, ⟨_, hz, ad, e⟩ | ⟨hG, o, cap, e, ho, h7, h8, _⟩⟩ := hu
    · exact ⟨ad, 0, by rw [e, hz], by omega, Nat.zero_le _, .inl hz⟩
    · refine ⟨_, cap, e, h7, h8, ?_⟩
      by_cases hn0 : m = 0
      · exact .inl hn0
      obtain ⟨xs, q1, q2, q3⟩ := (hh.obj id av h1 hG).path h2 (inbL_ok h3)
      have hmul : off * sz + m * sz ≤ n' * sz := by rw [← Nat.add_mul]; exact Nat.mul_le_mul_right _ h4
      have ho3 : o = pathOff p + off * sz := by rcases ho with ho | ho; omega; exact ho
      refine .inr ⟨c.ρ id, o, sub xs (off * sz) (m * sz), rfl, .inr ⟨id, av, h1, hG, trivial, rfl⟩, (fun _ => hB id av h1 hG), by rw [ho3]; exact q1.sub _ _, sub_len (by omega), fun i hi => ?_⟩
      have hm2 : i * sz + sz ≤ m * sz := by
        have := Nat.mul_le_mul_right sz (show i + 1 ≤ m from hi)
        rwa [Nat.add_mul, Nat.one_mul] at this
      rw [sub_sub _ _ _ _ _ hm2, ← Nat.add_mul]
      exact ih i hi (q3 _ (by omega))
  | @ptr id p av w a h1 h2 h3 h5 ih =>
    intro m vs hu
    obtain ⟨_, hG, e⟩ := hu
    obtain ⟨xs, q1, q2⟩ := (hh.obj id av h1 hG).path h2 (inbL_ok h3)
    exact ⟨c.ρ id, pathOff p, xs, e, .inr ⟨id, av, h1, hG, trivial, rfl⟩, (fun _ => hB id av h1 hG), q1, ih q2⟩
  | pair _ _ iha ihb =>
    intro m vs hu
    cases m <;> obtain ⟨p, q, e, h3, h4⟩ := hu <;> exact ⟨p, q, e, iha h3, ihb h4⟩
  | tup _ ih =>
    intro m vs hu
    cases m
    · exact hu
    · obtain ⟨xs, e, hx⟩ := hu; exact ⟨xs, e, ih hx⟩
    · obtain ⟨xs, e, hx⟩ := hu; exact ⟨xs, e, ih hx⟩
  | fn _ _ iha ihb =>
    intro m vs hu
    obtain ⟨fs, cs, e, h3, h4⟩ := hu
    exact ⟨fs, cs, e, iha h3, ihb h4⟩
  | ifc _ ih =>
    intro m vs hu
    obtain ⟨v, e, h3⟩ := hu
    exact ⟨v, e, ih h3⟩
/-- A function's new objects, said as memory that stays. -/
theorem Ok.still {P : Program} {f : FuncId} {g : Asc} {args : AV} {R R' : AV → Asc → Prop} (h : Ok P f g [] args R) (hR : ∀ r h', R r h' → ∃ r', ViewT h' r' r ∧ R' r' []) : Ok P f g [] args R' := by
  intro c hg hh hc hB hA vs hvs
  refine (h c hg hh hc hB hA vs hvs).mono fun e w' h => ?_
  obtain ⟨c', v, r, h', ns, e1, e2, ho, hr, hR1⟩ := h
  obtain ⟨r', hv, hR'⟩ := hR r h' hR1
  have hB' : ∀ id av, get? h' id = some av → ¬ c'.G id → c'.B ≤ c'.ρ id := fun id av hi hG => by
    rcases ho.own id av hi hG with ⟨j, av', hj, _⟩ | h
    · cases hj
    · rw [ho.B, hB]; exact h
  exact ⟨stillC c' h', v, r', [], _, e1, e2, ho.trans (Out.still (fun _ => True) ho.heap ho.ok (fun _ _ h => by cases h) (fun _ _ h => by cases h)), hv.rep ho.heap hB' hr, hR'⟩
theorem Ok.mono {P : Program} {f : FuncId} {g h : Asc} {args : AV} {R R' : AV → Asc → Prop} (k : Ok P f g h args R) (hR : ∀ r h', R r h' → R' r h') : Ok P f g h args R' := by
  intro c hg hh hc hB hA vs hvs
  refine (k c hg hh hc hB hA vs hvs).mono fun e w' h => ?_
  obtain ⟨c', v, r, h', ns, e1, e2, ho, hr, hR1⟩ := h
  exact ⟨c', v, r, h', ns, e1, e2, ho, hr, hR r h' hR1⟩
/-- The slot on which an operation's guard waits. -/
def gslot (ops : Array Oper) (gd : Option (Nat × Bool)) : Option Tmp := match gd with
  | some (j, _) => (ops[j]?).bind (·.dst)
  | none => none
theorem Seq.lit {F : Fr} {ops : Array Oper} {l : List Oper} {e h g : Asc} {N : Nat} {K : St → Prop} {dst : Option Tmp} {op : Op} {ty : TypeId} {pos : String} {af : Array Edge} {gd : Option (Nat × Bool)} {d : Tmp} {b b' : Bool} (hd : gslot ops gd = some d) (hu : get? e d = some (.bool b)) (hb : b = b')
    (hk : Seq F ops (⟨dst, op, ty, pos, af, gd⟩ :: l) ⟨(d, .bool b') :: e, h, g, N⟩ K) : Seq F ops (⟨dst, op, ty, pos, af, gd⟩ :: l) ⟨e, h, g, N⟩ K :=
  Seq.same d hu (congrArg AV.bool hb) hk
theorem Seq.litC {F : Fr} {ops : Array Oper} {l : List Oper} {e h g : Asc} {N : Nat} {K : St → Prop} {dst : Option Tmp} {op : Op} {ty : TypeId} {pos : String} {af : Array Edge} {gd : Option (Nat × Bool)} {d : Tmp} {b : Bool} (hd : gslot ops gd = some d) (hu : get? e d = some (.bool b))
    (h1 : b = true → Seq F ops (⟨dst, op, ty, pos, af, gd⟩ :: l) ⟨(d, .bool true) :: e, h, g, N⟩ K) (h2 : b = false → Seq F ops (⟨dst, op, ty, pos, af, gd⟩ :: l) ⟨(d, .bool false) :: e, h, g, N⟩ K) : Seq F ops (⟨dst, op, ty, pos, af, gd⟩ :: l) ⟨e, h, g, N⟩ K := by
  cases b with
  | true => exact Seq.same d hu rfl (h1 rfl)
  | false => exact Seq.same d hu rfl (h2 rfl)
theorem VC.litT {F : Fr} {Q : Exit → St → Prop} {s : St} {x : Operand} {y z : Code} {b : Bool} (hx : V.ev s.g s.e x = some (.bool b)) (hb : b = true) (hk : VC F y Q s) : VC F (.cond x y z) Q s :=
  VC.cond hx (fun _ => hk) (fun e => by rw [hb] at e; cases e)
theorem VC.litF {F : Fr} {Q : Exit → St → Prop} {s : St} {x : Operand} {y z : Code} {b : Bool} (hx : V.ev s.g s.e x = some (.bool b)) (hb : b = false) (hk : VC F z Q s) : VC F (.cond x y z) Q s :=
  VC.cond hx (fun e => by rw [hb] at e; cases e) (fun _ => hk)
def getIt : List It → Nat → Option AV
  | [], _ => none
  | it :: r, d => bif Nat.beq it.d d then some it.v else getIt r d
def setItO {α : Type} : List It → Nat → AV → (List It → α) → α
  | [], _, _, k => k []
  | it :: r, d, u, k => bif Nat.beq it.d d then k (⟨it.j, it.d, u, it.n⟩ :: r) else setItO r d u fun r' => k (it :: r')
theorem setItO_eq {α : Type} : ∀ {its : List It} {d : Nat} {u : AV} {k : List It → α}, getIt its d = some u → setItO its d u k = k its
  | [], _, _, _, h => by cases h
  | it :: r, d, u, k, h => by
    unfold getIt at h
    unfold setItO
    cases e : Nat.beq it.d d with
    | true => rw [e] at h; cases h; rfl
    | false => rw [e] at h; exact setItO_eq (k := fun r' => k (it :: r')) h
theorem DSeq.lit {P : Program} {ops : Array Oper} {g e0 h0 : Asc} {j : Nat} {anc : List Nat} {r : List (Nat × List Nat)} {its its' : List It} {N : Nat} {B : Asc} {K : List It → Nat → Asc → Prop} {o : Oper} {d : Tmp} {b b' : Bool} (ho : ops[j]? = some o) (hd : gslot ops o.guard = some d) (hu : getIt its d = some (.bool b)) (hb : b = b')
    (hs : setItO its d (.bool b') some = some its') (hk : DSeq P ops g e0 h0 ((j, anc) :: r) its' N B K) : DSeq P ops g e0 h0 ((j, anc) :: r) its N B K := by
  subst hb
  rw [setItO_eq hu] at hs
  cases hs
  exact hk
theorem DSeq.litC {P : Program} {ops : Array Oper} {g e0 h0 : Asc} {j : Nat} {anc : List Nat} {r : List (Nat × List Nat)} {its i1 i2 : List It} {N : Nat} {B : Asc} {K : List It → Nat → Asc → Prop} {o : Oper} {d : Tmp} {b : Bool} (ho : ops[j]? = some o) (hd : gslot ops o.guard = some d) (hu : getIt its d = some (.bool b))
    (hs1 : setItO its d (.bool true) some = some i1) (hs2 : setItO its d (.bool false) some = some i2) (h1 : b = true → DSeq P ops g e0 h0 ((j, anc) :: r) i1 N B K) (h2 : b = false → DSeq P ops g e0 h0 ((j, anc) :: r) i2 N B K) : DSeq P ops g e0 h0 ((j, anc) :: r) its N B K := by
  cases b with
  | true => exact DSeq.lit ho hd hu rfl hs1 (h1 rfl)
  | false => exact DSeq.lit ho hd hu rfl hs2 (h2 rfl)
/-- What an operation waits for, as bits of a number. -/
def tbb (m i : Nat) : Bool := Nat.blt i 256 && Nat.beq (Nat.land (Nat.shiftRight m i) 1) 1
def bitsL (m : Nat) : List Nat := (List.range 256).filter (tbb m)
theorem memB_bits (m : Nat) : (fun i => memB i (bitsL m)) = tbb m := by
  funext i
  rw [Bool.eq_iff_iff, memB_ok]
  unfold bitsL
  rw [List.mem_filter, List.mem_range]
  refine ⟨fun h => h.2, fun h => ⟨?_, h⟩⟩
  have h1 : Nat.blt i 256 = true := by
    unfold tbb at h
    simp only [Bool.and_eq_true] at h
    exact h.1
  exact Nat.lt_of_succ_le (Nat.le_of_ble_eq_true h1)
def mkP : List (Nat × Nat) → List (Nat × List Nat)
  | [] => []
  | (j, m) :: r => (j, bitsL m) :: mkP r
theorem fastE {m : Nat} {e0 : Asc} {its : List It} {eL : Asc} (h : selEO (tbb m) e0 its some = some eL) : selEO (fun i => memB i (bitsL m)) e0 its some = some eL := by rw [memB_bits]; exact h
theorem fastH {m : Nat} {h0 : Asc} {its : List It} {hL : Asc} (h : selHO (tbb m) h0 its some = some hL) : selHO (fun i => memB i (bitsL m)) h0 its some = some hL := by rw [memB_bits]; exact h
/-- Calls of functions by their names. -/
theorem Seq.callq {F : Fr} {ops : Array Oper} {l : List Oper} {e h g : Asc} {N : Nat} {K : St → Prop} {d : Tmp} {ty : TypeId} {pos : String} {af : Array Edge} {gd : Option (Nat × Bool)} {fid : FuncId} {fn : Func} {xs : Array Operand} {tys : Array TypeId} {ax args r0 : AV} {g' : Asc} (bw : Bool)
    (ct : Ok F.P fid g' [] args (fun r h' => r = r0 ∧ h' = [])) (hf : F.P.funcs[fid]? = some fn) (hG : GOk g) (hg' : subG g' g)
    (hax : evs g e xs.toList = some ax) (hc2 : isChain ax = true)
    (hbd : fn.body.isNone = false) (hnm : (fn.name == "runtime.NumGoroutine") = false) (hw : wants ops ⟨some d, .call ⟨.value (.func fid), xs, tys⟩, ty, pos, af, gd⟩ e = some true) (hd2 : Nat.blt d F.n = true)
    (hv : ViewD bw h args ax) (hnf : NoFr args) (hi : NoId r0) (hr : bw = true → AllFr r0)
    (hk : Seq F ops l ⟨(d, r0) :: e, h, g, N⟩ K) : Seq F ops (⟨some d, .call ⟨.value (.func fid), xs, tys⟩, ty, pos, af, gd⟩ :: l) ⟨e, h, g, N⟩ K :=
  Seq.callp bw ct hf hG hg' rfl hax rfl hc2 (catC_nul hc2) hbd hnm hw hd2 hv hnf hi hr hk
theorem DSeq.callq {P : Program} {ops : Array Oper} {g e0 h0 : Asc} {j : Nat} {anc : List Nat} {r : List (Nat × List Nat)} {its its' : List It} {N : Nat} {B : Asc} {K : List It → Nat → Asc → Prop} {eL hL : Asc} {d : Tmp} {ty : TypeId} {pos : String} {af : Array Edge} {gd : Option (Nat × Bool)} {fid : FuncId} {fn : Func} {xs : Array Operand} {tys : Array TypeId} {ax args r0 : AV} {g' : Asc} (bw : Bool)
    (ct : Ok P fid g' [] args (fun r h' => r = r0 ∧ h' = [])) (hf : P.funcs[fid]? = some fn) (hG : GOk g) (hg' : subG g' g) (ho : ops[j]? = some ⟨some d, .call ⟨.value (.func fid), xs, tys⟩, ty, pos, af, gd⟩)
    (hE : selEO (fun i => memB i anc) e0 its some = some eL) (hH : selHO (fun i => memB i anc) h0 its some = some hL)
    (hax : evs g eL xs.toList = some ax) (hc2 : isChain ax = true)
    (hbd : fn.body.isNone = false) (hnm : (fn.name == "runtime.NumGoroutine") = false) (hw : wants ops ⟨some d, .call ⟨.value (.func fid), xs, tys⟩, ty, pos, af, gd⟩ eL = some true) (hs : snocO its ⟨j, d, r0, []⟩ some = some its')
    (hv : ViewD bw hL args ax) (hnf : NoFr args) (hi : NoId r0) (hr : bw = true → AllFr r0) (h : DSeq P ops g e0 h0 r its' N B K) : DSeq P ops g e0 h0 ((j, anc) :: r) its N B K :=
  DSeq.callp bw ct hf hG hg' ho hE hH rfl hax rfl hc2 (catC_nul hc2) hbd hnm hw hs hv hnf hi hr h
theorem not_true {p : Prop} [Decidable p] (h : ¬ p) : (!decide p) = true := by simp [h]
theorem not_false' {p : Prop} [Decidable p] (h : p) : (!decide p) = false := by simp [h]
end Go.V
