/- == of structs of two numbers. A contract whose new objects get other names; objects that hold objects become memory that stays. -/
import Derived.Test.YtmbldnahcmkpgaaDoorFp
import Derived.Laws.StructEq
set_option linter.unusedSimpArgs false
set_option linter.unusedVariables false
namespace Go.V
open Go.RowKit Go.L
structure TwoInts (P : Program) (t : TypeId) : Prop where
  und : ∃ f0 f1 : Field, P.underlying t = some (.struct #[f0, f1]) ∧ f0.name ≠ "_" ∧ f1.name ≠ "_" ∧ f0.offset = 0 ∧ f1.offset = 1 ∧ P.underlying f0.type = some (.int .i64) ∧ P.underlying f1.type = some (.int .i64)
  st : P.stoodInHeld t = false
  gd : P.eqGuardType P.depth t = false
variable {P : Program} {t yt ty : TypeId} {g e h : Asc} {x y : Operand} {d : Option Tmp} {pos : String} {af : Array Edge} {gd : Option (Nat × Bool)}
/-! A region that draws its order, behind whose plan several orders are left. -/
def allJ (p : Nat → Prop) : List Nat → Prop
  | [] => True
  | j :: r => p j ∧ allJ p r
def SeqT (F : Fr) (ops : Array Oper) (K : St → Prop) : Nat → Array Bool → St → Prop
  | 0, listed, s => Region.ready .any ops listed = [] ∧ K s
  | n + 1, listed, s => Region.ready .any ops listed ≠ [] ∧ allJ (fun j => ∃ o, ops[j]? = some o ∧ Seq F ops [o] s (SeqT F ops K n (listed.setIfInBounds j true))) (Region.ready .any ops listed)
theorem SeqT.one {F : Fr} {ops : Array Oper} {K : St → Prop} {n : Nat} {listed : Array Bool} {s : St} (j : Nat) {o : Oper} (hr : Region.ready .any ops listed = [j]) (ho : ops[j]? = some o) (h : Seq F ops [o] s (SeqT F ops K n (listed.setIfInBounds j true))) : SeqT F ops K (n + 1) listed s := by
  refine ⟨by rw [hr]; simp, ?_⟩
  rw [hr]; exact ⟨⟨o, ho, h⟩, trivial⟩
theorem SeqT.drawn {F : Fr} {ops : Array Oper} {K : St → Prop} {n : Nat} {listed : Array Bool} {its : List It} {e0 h0 g e' h' : Asc} {N : Nat} (hE : selEO allB e0 its some = some e') (hH : selHO allB h0 its some = some h') (h : SeqT F ops K n listed ⟨e', h', g, N⟩) : SeqT F ops K n listed (V.drawn its e0 h0 g N) := by
  rw [selEO_eq] at hE
  rw [selHO_eq] at hH
  cases hE; cases hH
  exact h
end Go.V

namespace Go.V
open Go.RowKit Go.L
theorem Ok.ren {P : Program} {f : FuncId} {g h : Asc} {args r0 r1 : AV} {h1 h2 : Asc} (N0 N' : Nat) (σ : List (Nat × Nat)) (k : Ok P f g h args (fun r h' => r = r0 ∧ h' = h1))
    (hN : ∀ i av, get? h i = some av → i < N0) (hb : renB σ N0 (keys h2) N' = true) (he : RelA (fun i => memB i (keys h2) = true) (sg σ) r1 r0) (hh : HeapLe (fun i => memB i (keys h2) = true) (sg σ) h1 h2) : Ok P f g h args (fun r h' => r = r1 ∧ h' = h2) := by
  intro c hg hhp hc hB hA vs hvs
  refine (k c hg hhp hc hB hA vs hvs).mono fun e w' q => ?_
  obtain ⟨c', v, r, h', ns, e1, e2, ho, hr, rfl, rfl⟩ := q
  obtain ⟨M, hM⟩ : ∃ M, ∀ i, i ∈ ns → i < M := ⟨ns.foldr (fun a b => a + 1 + b) 0, by
    clear ho hr
    induction ns with
    | nil => intro i hi; cases hi
    | cons a l ih =>
      intro i hi
      show i < a + 1 + _
      rcases List.mem_cons.1 hi with rfl | hi
      · omega
      · have := ih i hi; omega⟩
  let a : Act := ⟨#[v], []⟩
  have hs : Sim ⟨P, c, h, 1, N0, [], .plain P⟩ ⟨[(0, r)], h', [], M + N0⟩ a c'.w := by
    refine ⟨c', ns, rfl, ho, ⟨fun t u ht => ?_, fun x u hx => by cases hx⟩, fun i hi => ?_, rfl, rfl, fun i hi => ?_, fun x u hx => by cases hx⟩
    · by_cases h0 : t = 0
      · subst h0
        obtain rfl : r = u := Option.some.inj ht
        exact ⟨by show 0 < 1; decide, hr⟩
      · have hk := get?_keys (show get? [(0, r)] t = some u from ht)
        exact absurd (List.mem_singleton.1 hk) h0
    · rcases ho.A i hi with h1 | h1
      · obtain ⟨av, h2⟩ := hA i h1
        have := hN i av h2; show i < M + N0; omega
      · have := hM i h1; show i < M + N0; omega
    · obtain ⟨av, h2⟩ := hA i hi
      exact hN i av h2
  obtain ⟨c2, ns2, hw, ho2, hen2, _⟩ := Sim.ren (F := ⟨P, c, h, 1, N0, [], .plain P⟩) (s := ⟨[(0, r)], h', [], M + N0⟩) (s' := ⟨[(0, r1)], h2, [], N'⟩) σ hb rfl ⟨⟨r, rfl, he⟩, trivial⟩ hh a c'.w hs
  exact ⟨c2, v, r1, h2, ns2, e1, hw.trans e2, ho2, (hen2.slot 0 r1 rfl).2, rfl, rfl⟩
/-- What a value is, when some objects become memory that stays; nested. -/
inductive ViewN (H : Asc) (bor D : Nat → Prop) : AV → AV → Prop
  | rel {a u : AV} : RelA D (fun i => i) a u → ViewN H bor D a u
  | sl {id n' sz off n m : Nat} {p : List Step} {av : AV} {f k : Nat → AV} : get? H id = some av → getp av p = some (.arr n' sz k) → AllP (inbL av p) → off + n ≤ n' → m = n → bor id → (∀ i, i < n → ViewN H bor D (f i) (k (off + i))) → ViewN H bor D (.rsl false m sz f) (.sl id p sz off n)
  | nil {sz : Nat} {f : Nat → AV} : ViewN H bor D (.rsl false 0 sz f) (.val (.slice none 0 0))
  | emp {sz : Nat} {f : Nat → AV} : ViewN H bor D (.rsl false 0 sz f) .emp
  | ptr {id : Nat} {p : List Step} {av w a : AV} : get? H id = some av → getp av p = some w → AllP (inbL av p) → w.isMo = false → bor id → ViewN H bor D a w → ViewN H bor D (.rptr false a) (.ptr id p)
  | pair {a b x y : AV} : ViewN H bor D a x → ViewN H bor D b y → ViewN H bor D (.pair a b) (.pair x y)
  | tup {a x : AV} : ViewN H bor D a x → ViewN H bor D (.tup a) (.tup x)
  | fn {f : Fn} {a b x y : AV} : ViewN H bor D a x → ViewN H bor D b y → ViewN H bor D (.fn f a b) (.fn f x y)
  | ifc {t : TypeId} {a x : AV} : ViewN H bor D a x → ViewN H bor D (.ifc t a) (.ifc t x)
  | arr {n m sz : Nat} {f k : Nat → AV} : n = m → (∀ i, i < n → ViewN H bor D (f i) (k i)) → ViewN H bor D (.arr n sz f) (.arr m sz k)
theorem ViewN.rep {H : Asc} {bor D : Nat → Prop} {c c0 : Ctx} (hp : Pass false false c c0 D (fun i => i)) (hh : HeapRep c H) (hb : ∀ id av, get? H id = some av → bor id → ¬ c.G id → c0.S (c.ρ id)) {a u : AV} (h : ViewN H bor D a u) : ∀ {m : Md} {vs : List Value}, Rep c u m vs → Rep c0 a m vs := by
  induction h with
  | rel hr => intro m vs hu; exact hu.pass hp hr (fun e => by cases e) (fun e => by cases e)
  | nil =>
    intro m vs hu
    exact ⟨none, 0, hu.1, Nat.le_refl _, Nat.zero_le _, .inl rfl⟩
  | emp =>
    intro m vs hu
    obtain ⟨ad, hu⟩ := hu
    exact ⟨ad, 0, hu, Nat.le_refl _, Nat.zero_le _, .inl rfl⟩
  | @sl id n' sz off n m p av f k h1 h2 h3 h4 hm h5 h6 ih =>
    subst hm
    intro md vs hu
    obtain ⟨_, ⟨_, hz, ad, e⟩ | ⟨hG, o, cap, e, ho, h7, h8, _⟩⟩ := hu
    · exact ⟨ad, 0, by rw [e, hz], by omega, Nat.zero_le _, .inl hz⟩
    · refine ⟨_, cap, e, h7, h8, ?_⟩
      by_cases hn0 : m = 0
      · exact .inl hn0
      obtain ⟨xs, q1, q2, q3⟩ := (hh.obj id av h1 hG).path h2 (inbL_ok h3) rfl
      have hmul : off * sz + m * sz ≤ n' * sz := by rw [← Nat.add_mul]; exact Nat.mul_le_mul_right _ h4
      have ho3 : o = pathOff p + off * sz := by rcases ho with ho | ho; omega; exact ho
      refine .inr ⟨c.ρ id, o, sub xs (off * sz) (m * sz), rfl, hb id av h1 h5 hG, (fun e => by cases e), by rw [ho3, hp.w]; exact q1.sub _ _, sub_len (by omega), fun i hi => ?_⟩
      have hm2 : i * sz + sz ≤ m * sz := by
        have := Nat.mul_le_mul_right sz (show i + 1 ≤ m from hi)
        rwa [Nat.add_mul, Nat.one_mul] at this
      rw [sub_sub _ _ _ _ _ hm2, ← Nat.add_mul]
      exact ih i hi (q3 _ (by omega))
  | @ptr id p av w a h1 h2 h3 hmo h4 h5 ih =>
    intro m vs hu
    obtain ⟨_, hG, e⟩ := hu
    obtain ⟨xs, q1, q2⟩ := (hh.obj id av h1 hG).path h2 (inbL_ok h3) hmo
    exact ⟨c.ρ id, pathOff p, xs, e, hb id av h1 h4 hG, (fun e => by cases e), by rw [hp.w]; exact q1, ih q2⟩
  | pair _ _ iha ihb =>
    intro m vs hu
    cases m <;> obtain ⟨p, q, e, h3, h4⟩ := hu <;> exact ⟨p, q, e, iha h3, ihb h4⟩
  | tup _ ih =>
    intro m vs hu
    cases m
    · exact hu
    · obtain ⟨xs, e, hx⟩ := hu; exact ⟨xs, e, ih hx⟩
    · obtain ⟨xs, e, hx⟩ := hu; exact ⟨xs, e, ih hx⟩
  | fn _ _ iha ihb =>
    intro m vs hu
    obtain ⟨fs, cs, e, h3, h4⟩ := hu
    exact ⟨fs, cs, e, iha h3, ihb h4⟩
  | ifc _ ih =>
    intro m vs hu
    obtain ⟨v, e, h3⟩ := hu
    exact ⟨v, e, ih h3⟩
  | arr hn _ ih =>
    subst hn
    intro m vs hu
    cases m
    · exact ⟨hu.1, fun i hi => ih i hi (hu.2 i hi)⟩
    · obtain ⟨xs, e, h2, h3⟩ := hu; exact ⟨xs, e, h2, fun i hi => ih i hi (h3 i hi)⟩
    · obtain ⟨xs, e, h2, h3⟩ := hu; exact ⟨xs, e, h2, fun i hi => ih i hi (h3 i hi)⟩
def HeapN (H : Asc) (bor D : Nat → Prop) : Asc → Prop
  | [] => True
  | (t, v) :: r => (∃ u, get? H t = some u ∧ ViewN H bor D v u ∧ v.size = u.size) ∧ HeapN H bor D r
theorem HeapN.nil {H : Asc} {bor D : Nat → Prop} : HeapN H bor D [] := trivial
theorem HeapN.cons {H : Asc} {bor D : Nat → Prop} {r : Asc} {t : Nat} {v u : AV} (h : get? H t = some u) (h1 : ViewN H bor D v u) (h4 : v.size = u.size) (h3 : HeapN H bor D r) : HeapN H bor D ((t, v) :: r) := ⟨⟨u, h, h1, h4⟩, h3⟩
def EnvN (H : Asc) (bor D : Nat → Prop) (e : Asc) : Asc → Prop
  | [] => True
  | (t, v) :: r => (∃ u, get? e t = some u ∧ ViewN H bor D v u) ∧ EnvN H bor D e r
theorem EnvN.nil {H e : Asc} {bor D : Nat → Prop} : EnvN H bor D e [] := trivial
theorem EnvN.cons {H e r : Asc} {bor D : Nat → Prop} {t : Nat} {v u : AV} (h : get? e t = some u) (h1 : ViewN H bor D v u) (h2 : EnvN H bor D e r) : EnvN H bor D e ((t, v) :: r) := ⟨⟨u, h, h1⟩, h2⟩
/-- What is left of a drawn region when its eater has eaten. -/
def EatenQ (F : Fr) (ops : Array Oper) (tops : List Oper) (e0 hA g : Asc) (K : St → Prop) (its : List It) (N' : Nat) (B' : Asc) : Prop := B' = [] ∧ Seq F ops tops (V.drawn its e0 (B' ++ hA) g N') K
theorem EatenQ.mk {F : Fr} {ops : Array Oper} {tops : List Oper} {e0 hA g : Asc} {K : St → Prop} {its : List It} {N' : Nat} (h : Seq F ops tops (V.drawn its e0 hA g N') K) : EatenQ F ops tops e0 hA g K its N' [] := ⟨rfl, h⟩
def EatenT (F : Fr) (ops : Array Oper) (K : St → Prop) (m : Nat) (listed : Array Bool) (e0 hA g : Asc) (its : List It) (N' : Nat) (B' : Asc) : Prop := B' = [] ∧ SeqT F ops K m listed (V.drawn its e0 (B' ++ hA) g N')
theorem EatenT.mk {F : Fr} {ops : Array Oper} {K : St → Prop} {m : Nat} {listed : Array Bool} {e0 hA g e' h' : Asc} {its : List It} {N' : Nat} (hE : selEO allB e0 its some = some e') (hH : selHO allB hA its some = some h') (h : SeqT F ops K m listed ⟨e', h', g, N'⟩) : EatenT F ops K m listed e0 hA g its N' [] := ⟨rfl, SeqT.drawn (h0 := hA) hE hH h⟩
section
variable {P : Program} {g e h : Asc} {x y : Operand} {d : Option Tmp} {ty t yt : TypeId} {pos : String} {af : Array Edge} {gd : Option (Nat × Bool)}
end
end Go.V
