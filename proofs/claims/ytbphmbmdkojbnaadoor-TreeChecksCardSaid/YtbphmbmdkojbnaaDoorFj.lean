
/- min and max; operations that only give a value, as steps. -/
import Derived.Test.YtbphmbmdkojbnaaDoorFi
import Derived.Lib.MinMax
set_option linter.unusedSimpArgs false
set_option linter.unusedVariables false
namespace Go.V
open Go.RowKit Go.L Go.Chain
theorem Seq.val {F : Fr} {ops : Array Oper} {l : List Oper} {e h g : Asc} {N : Nat} {K : St → Prop} {d : Tmp} {op : Op} {ty : TypeId} {pos : String} {af : Array Edge} {gd : Option (Nat × Bool)} {v : AV} (ok : OpOk F.P ⟨some d, op, ty, pos, af, gd⟩ g e h (some v) h []) (hw : wants ops ⟨some d, op, ty, pos, af, gd⟩ e = some true) (hd2 : Nat.blt d F.n = true)
    (hk : Seq F ops l ⟨(d, v) :: e, h, g, N⟩ K) : Seq F ops (⟨some d, op, ty, pos, af, gd⟩ :: l) ⟨e, h, g, N⟩ K :=
  Seq.step (s := ⟨e, h, g, N⟩) N hw ok (fun n hn => by cases hn) (Nat.le_refl _) hd2 hk
theorem DSeq.val {P : Program} {ops : Array Oper} {g e0 h0 : Asc} {j : Nat} {anc : List Nat} {r : List (Nat × List Nat)} {its its' : List It} {N : Nat} {B : Asc} {K : List It → Nat → Asc → Prop} {eL hL : Asc} {d : Tmp} {op : Op} {ty : TypeId} {pos : String} {af : Array Edge} {gd : Option (Nat × Bool)} {v : AV} (ho : ops[j]? = some ⟨some d, op, ty, pos, af, gd⟩)
    (hE : selEO (fun i => memB i anc) e0 its some = some eL) (hH : selHO (fun i => memB i anc) h0 its some = some hL) (ok : OpOk P ⟨some d, op, ty, pos, af, gd⟩ g eL hL (some v) hL []) (hw : wants ops ⟨some d, op, ty, pos, af, gd⟩ eL = some true)
    (hs : snocO its ⟨j, d, v, []⟩ some = some its') (h : DSeq P ops g e0 h0 r its' N B K) : DSeq P ops g e0 h0 ((j, anc) :: r) its N B K :=
  DSeq.put (n := []) ho hE hH hw ok (fun i hi => by cases hi) (Nat.le_refl _) hs h
section
variable {P : Program} {t : TypeId} {g e h : Asc} {x y : Operand} {d : Option Tmp} {ty : TypeId} {pos : String} {af : Array Edge} {gd : Option (Nat × Bool)}
theorem max_ok {ts : Array TypeId} {k k' : IntKind} {a b : Int} (hx : V.ev g e x = some (.int k a)) (hy : V.ev g e y = some (.int k' b)) : OpOk P ⟨d, .call { callee := .builtin .max, args := #[x, y], argTypes := ts }, ty, pos, af, gd⟩ g e h (some (.int k (max a b))) h [] := by
  refine OpOk.val fun c ac he hh hc => ⟨_, ?_, rfl⟩
  have hvx := rep_int (ev_rep he hx)
  have hvy := rep_int (ev_rep he hy)
  simp only [execOp, resolve, invoke, builtin, Sem.run_bind, Sem.run_pure, Result.andThen_ok, List.map_toArray, List.map_cons, List.map_nil, hvx, hvy, Go.Lib.run_max_ints]
theorem min_ok {ts : Array TypeId} {k k' : IntKind} {a b : Int} (hx : V.ev g e x = some (.int k a)) (hy : V.ev g e y = some (.int k' b)) : OpOk P ⟨d, .call { callee := .builtin .min, args := #[x, y], argTypes := ts }, ty, pos, af, gd⟩ g e h (some (.int k (min a b))) h [] := by
  refine OpOk.val fun c ac he hh hc => ⟨_, ?_, rfl⟩
  have hvx := rep_int (ev_rep he hx)
  have hvy := rep_int (ev_rep he hy)
  simp only [execOp, resolve, invoke, builtin, Sem.run_bind, Sem.run_pure, Result.andThen_ok, List.map_toArray, List.map_cons, List.map_nil, hvx, hvy, Go.Lib.run_min_ints]
end
/-- What values are, when no object of the call's own is changed any more (objects may speak of objects). -/
inductive ViewS (H : Asc) : AV → AV → Prop
  | rel {a u : AV} : RelA (fun _ => False) (fun i => i) a u → ViewS H a u
  | sl {id n' sz off n m : Nat} {p : List Step} {av : AV} {f k : Nat → AV} : get? H id = some av → getp av p = some (.arr n' sz k) → AllP (inbL av p) → off + n ≤ n' → m = n → (∀ i, i < n → ViewS H (f i) (k (off + i))) → ViewS H (.rsl false m sz f) (.sl id p sz off n)
  | nil {sz : Nat} {f : Nat → AV} : ViewS H (.rsl false 0 sz f) (.val (.slice none 0 0))
  | emp {sz : Nat} {f : Nat → AV} : ViewS H (.rsl false 0 sz f) .emp
  | ptr {id : Nat} {p : List Step} {av w a : AV} : get? H id = some av → getp av p = some w → AllP (inbL av p) → ViewS H a w → ViewS H (.rptr false a) (.ptr id p)
  | pair {a b x y : AV} : ViewS H a x → ViewS H b y → ViewS H (.pair a b) (.pair x y)
  | tup {a x : AV} : ViewS H a x → ViewS H (.tup a) (.tup x)
  | fn {f : Fn} {a b x y : AV} : ViewS H a x → ViewS H b y → ViewS H (.fn f a b) (.fn f x y)
  | ifc {t : TypeId} {a x : AV} : ViewS H a x → ViewS H (.ifc t a) (.ifc t x)
  | arr {n m sz : Nat} {f k : Nat → AV} : n = m → (∀ i, i < n → ViewS H (f i) (k i)) → ViewS H (.arr n sz f) (.arr m sz k)
  | imp {a b u : AV} : Imp a b → ViewS H b u → ViewS H a u
theorem ViewS.rep {H : Asc} {c : Ctx} (hh : HeapRep c H) {a u : AV} (h : ViewS H a u) : ∀ {m : Md} {vs : List Value}, Rep c u m vs → Rep (stillC c H) a m vs := by
  have hp : Pass false false c (stillC c H) (fun _ => False) (fun i => i) := ⟨rfl, fun i hi => hi.elim, fun i hi => hi.elim, fun i hi => hi.elim, fun b hb _ => .inl hb, fun _ => Nat.le_refl _⟩
  induction h with
  | rel hr => intro m vs hu; exact hu.pass hp hr (fun e => by cases e) (fun e => by cases e)
  | nil =>
    intro m vs hu
    exact ⟨none, 0, hu.1, Nat.le_refl _, Nat.zero_le _, .inl rfl⟩
  | emp =>
    intro m vs hu
    obtain ⟨ad, hu⟩ := hu
    exact ⟨ad, 0, hu, Nat.le_refl _, Nat.zero_le _, .inl rfl⟩
  | @sl id n' sz off n m p av f k h1 h2 h3 h4 hm h6 ih =>
    subst hm
    intro md vs hu
    obtain ⟨_, ⟨_, hz, ad, e⟩ | ⟨hG, o, cap, e, ho, h7, h8, _⟩⟩ := hu
    · exact ⟨ad, 0, by rw [e, hz], by omega, Nat.zero_le _, .inl hz⟩
    · refine ⟨_, cap, e, h7, h8, ?_⟩
      by_cases hn0 : m = 0
      · exact .inl hn0
      obtain ⟨xs, q1, q2, q3⟩ := (hh.obj id av h1 hG).path h2 (inbL_ok h3)
      have hmul : off * sz + m * sz ≤ n' * sz := by rw [← Nat.add_mul]; exact Nat.mul_le_mul_right _ h4
      have ho3 : o = pathOff p + off * sz := by rcases ho with ho | ho; omega; exact ho
      refine .inr ⟨c.ρ id, o, sub xs (off * sz) (m * sz), rfl, .inr ⟨id, av, h1, hG, trivial, rfl⟩, (fun e => by cases e), by rw [ho3]; exact q1.sub _ _, sub_len (by omega), fun i hi => ?_⟩
      have hm2 : i * sz + sz ≤ m * sz := by
        have := Nat.mul_le_mul_right sz (show i + 1 ≤ m from hi)
        rwa [Nat.add_mul, Nat.one_mul] at this
      rw [sub_sub _ _ _ _ _ hm2, ← Nat.add_mul]
      exact ih i hi (q3 _ (by omega))
  | @ptr id p av w a h1 h2 h3 h5 ih =>
    intro m vs hu
    obtain ⟨_, hG, e⟩ := hu
    obtain ⟨xs, q1, q2⟩ := (hh.obj id av h1 hG).path h2 (inbL_ok h3)
    exact ⟨c.ρ id, pathOff p, xs, e, .inr ⟨id, av, h1, hG, trivial, rfl⟩, (fun e => by cases e), q1, ih q2⟩
  | pair _ _ iha ihb =>
    intro m vs hu
    cases m <;> obtain ⟨p, q, e, h3, h4⟩ := hu <;> exact ⟨p, q, e, iha h3, ihb h4⟩
  | tup _ ih =>
    intro m vs hu
    cases m
    · exact hu
    · obtain ⟨xs, e, hx⟩ := hu; exact ⟨xs, e, ih hx⟩
    · obtain ⟨xs, e, hx⟩ := hu; exact ⟨xs, e, ih hx⟩
  | fn _ _ iha ihb =>
    intro m vs hu
    obtain ⟨fs, cs, e, h3, h4⟩ := hu
    exact ⟨fs, cs, e, iha h3, ihb h4⟩
  | ifc _ ih =>
    intro m vs hu
    obtain ⟨v, e, h3⟩ := hu
    exact ⟨v, e, ih h3⟩
  | arr hn _ ih =>
    subst hn
    intro m vs hu
    cases m
    · exact ⟨hu.1, fun i hi => ih i hi (hu.2 i hi)⟩
    · obtain ⟨xs, e, h2, h3⟩ := hu; exact ⟨xs, e, h2, fun i hi => ih i hi (h3 i hi)⟩
    · obtain ⟨xs, e, h2, h3⟩ := hu; exact ⟨xs, e, h2, fun i hi => ih i hi (h3 i hi)⟩
  | imp hi _ ih => intro m vs hu; exact hi _ _ _ (ih hu)
def EnvS (H e : Asc) : Asc → Prop
  | [] => True
  | (t, v) :: r => (∃ u, get? e t = some u ∧ ViewS H v u) ∧ EnvS H e r
theorem EnvS.nil {H e : Asc} : EnvS H e [] := trivial
theorem EnvS.cons {H e r : Asc} {t : Nat} {v u : AV} (h : get? e t = some u) (h1 : ViewS H v u) (h2 : EnvS H e r) : EnvS H e ((t, v) :: r) := ⟨⟨u, h, h1⟩, h2⟩
theorem ViewS.self {H : Asc} {a : AV} (h : NoId a) : ViewS H a a := .rel h.self
theorem ViewS.same {H : Asc} {id n sz : Nat} {f : Nat → AV} (h : get? H id = some (.arr n sz f)) (hi : ∀ i, i < n → NoId (f i)) : ViewS H (.rsl false n sz f) (.sl id [] sz 0 n) :=
  .sl h rfl trivial (by omega) rfl fun i hi' => by rw [Nat.zero_add]; exact .self (hi i hi')
theorem envS_get {H e : Asc} : ∀ {e' : Asc}, EnvS H e e' → ∀ t v, get? e' t = some v → ∃ u, get? e t = some u ∧ ViewS H v u
  | [], _, t, v, h => by cases h
  | (k, w) :: r, h, t, v, hg => by
    rw [get?_cons] at hg
    by_cases e : k = t
    · rw [if_pos e] at hg; cases hg; subst e; exact h.1
    · rw [if_neg e] at hg; exact envS_get h.2 t v hg
/-- All objects of the call's own become memory that stays. -/
theorem Sim.stillS {F : Fr} {e h g e' : Asc} {N : Nat} (he : EnvS h e e') : ∀ a w, Sim F ⟨e, h, g, N⟩ a w → Sim F ⟨e', [], g, N⟩ a w := by
  rintro a w ⟨c, ns, rfl, hout, hen, hA, hsz, hdf, hN0, hgl⟩
  have ho2 := hout.trans (Out.still (fun _ => True) hout.heap hout.ok (h' := []) (fun _ _ h => by cases h) (fun _ _ h => by cases h))
  refine ⟨stillC c h, _, rfl, ho2, ⟨fun t v hv => ?_, fun x v hx => ?_⟩, hA, hsz, hdf, hN0, hgl⟩
  · obtain ⟨u, h1, h2⟩ := envS_get he t v hv
    obtain ⟨q1, q2⟩ := hen.slot t u h1
    exact ⟨q1, h2.rep hout.heap q2⟩
  · exact ((hen.le (Out.still (fun _ => True) hout.heap hout.ok (h' := []) (fun _ _ h => by cases h) (fun _ _ h => by cases h)).le).glob) x v hx
end Go.V
