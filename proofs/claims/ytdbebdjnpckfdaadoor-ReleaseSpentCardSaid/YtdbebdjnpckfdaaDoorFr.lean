/- == of structs of two numbers. A contract whose new objects get other names; objects that hold objects become memory that stays. -/
import Derived.Test.YtdbebdjnpckfdaaDoorFp
import Derived.Test.YtdbebdjnpckfdaaDoorFo
import Derived.Laws.StructEq
set_option linter.unusedSimpArgs false
set_option linter.unusedVariables false
namespace Go.V
open Go.RowKit Go.L
structure TwoInts (P : Program) (t : TypeId) : Prop where
  und : ∃ f0 f1 : Field, P.underlying t = some (.struct #[f0, f1]) ∧ f0.name ≠ "_" ∧ f1.name ≠ "_" ∧ f0.offset = 0 ∧ f1.offset = 1 ∧ P.underlying f0.type = some (.int .i64) ∧ P.underlying f1.type = some (.int .i64)
  st : P.stoodInHeld t = false
  gd : P.eqGuardType P.depth t = false
theorem run_two {P : Program} {t : TypeId} (hT : TwoInts P t) (w : World) (n : Nat) (a b c d : Int) : (Op.equalIn (n + 1 + 1) t (.agg #[.int .i64 a, .int .i64 b]) (.agg #[.int .i64 c, .int .i64 d])).run P w = .ok (a == c && b == d) w := by
  obtain ⟨f0, f1, hu, n0, n1, o0, o1, u0, u1⟩ := hT.und
  have hf : P.fieldsOf t = #[f0, f1] := by simp [Program.fieldsOf, hu]
  rw [run_equalIn_struct w (n + 1) t _ _ (by rw [hf]; exact hu) hT.st, hf]
  have p0 : ∀ (x y : Int), (part f0.type #[.int .i64 x, .int .i64 y] 0).run P w = .ok (.int .i64 x) w := fun x y => run_part_int u0 _ _ rfl w
  have p1 : ∀ (x y : Int), (part f1.type #[.int .i64 x, .int .i64 y] 1).run P w = .ok (.int .i64 y) w := fun x y => run_part_int u1 _ _ rfl w
  have e0 := run_equalIn_int (P := P) w n f0.type .i64 .i64 a c u0
  have e1 := run_equalIn_int (P := P) w n f1.type .i64 .i64 b d u1
  simp only [Op.eqFields, n0, n1, o0, o1, ne_eq, not_false_eq_true, if_true, Sem.run_bind, p0, p1, Result.andThen_ok, e0]
  cases h : (a == c) with
  | false => simp
  | true => simp [e1, p1]; by_cases hbd : b = d <;> simp [hbd]
abbrev twoA (a b : Int) : AV := .pair (.int .i64 a) (.pair (.int .i64 b) .nul)
theorem two_val {c : Ctx} {a b : Int} {v : Value} (h : Rep c (twoA a b) .V [v]) : v = .agg #[.int .i64 a, .int .i64 b] := by
  obtain ⟨x, y, h1, h2, x2, y2, h3, h4, h5⟩ := h
  have h2 : x = [.int .i64 a] := h2
  have h4 : x2 = [.int .i64 b] := h4
  have h5 : y2 = [] := h5
  subst h2 h4 h5
  subst h3
  simpa using h1
variable {P : Program} {t yt ty : TypeId} {g e h : Asc} {x y : Operand} {d : Option Tmp} {pos : String} {af : Array Edge} {gd : Option (Nat × Bool)}
theorem two_eq (hT : TwoInts P t) {a b a2 b2 : Int} (hx : ev g e x = some (twoA a b)) (hy : ev g e y = some (twoA a2 b2)) (r : Bool) (hr : decide (a = a2 ∧ b = b2) = r) :
    OpOk P ⟨d, .binOp .eql t x y yt, ty, pos, af, gd⟩ g e h (some (.bool r)) h [] := by
  refine OpOk.val fun c ac he hh hc => ⟨.bool r, ?_, rfl⟩
  have hvx := two_val (ev_rep he hx)
  have hvy := two_val (ev_rep he hy)
  have hr' : (a == a2 && b == b2) = r := by rw [← hr]; simp [Bool.decide_and]; rfl
  have heq : (Op.equal t (.agg #[.int .i64 a, .int .i64 b]) (.agg #[.int .i64 a2, .int .i64 b2])).run P c.w = .ok r c.w := by
    rw [← hr']; exact run_two hT c.w 9998 a b a2 b2
  have hgd := run_eqGuard_agg c.w .eql t x y #[.int .i64 a, .int .i64 b] #[.int .i64 a2, .int .i64 b2] hT.gd
  simp only [execOp, hvx, hvy, Sem.run_bind, hgd, Result.andThen_ok, binOp, heq, Sem.run_pure]
theorem negw_ok {k : IntKind} {n : Int} (hx : ev g e x = some (.int k n)) (r : Int) (hr : k.wrap (-n) = r) : OpOk P ⟨d, .unOp .neg t x, ty, pos, af, gd⟩ g e h (some (.int k r)) h [] := by
  refine OpOk.val fun c a he hh hc => ?_
  have := rep_int (ev_rep he hx)
  exact ⟨_, by simp [execOp, this, Op.unary, Op.intArith]; rfl, by rw [← hr]; simp [Rep]⟩
theorem wrap_nn {n : Int} (h : -9223372036854775808 ≤ n ∧ n < 0) : IntKind.u64.wrap (-(IntKind.u64.wrap n)) = -n := by
  have hw : ∀ m : Int, IntKind.u64.wrap m = m % 18446744073709551616 := fun m => by simp [IntKind.wrap, IntKind.bits, IntKind.signed]
  rw [hw, hw]; omega
theorem nebool_ok {T : List (Option TI)} (hT : TabOk P T) {a b : Bool} (hk : (tget T t).map (·.kind) = some .bool) (hx : ev g e x = some (.bool a)) (hy : ev g e y = some (.bool b)) (r : Bool) (hr : (a != b) = r) :
    OpOk P ⟨d, .binOp .neq t x y yt, ty, pos, af, gd⟩ g e h (some (.bool r)) h [] := by
  refine OpOk.val fun c ac he hh hc => ⟨.bool r, ?_, rfl⟩
  have hvx := rep_bool (ev_rep he hx)
  have hvy := rep_bool (ev_rep he hy)
  cases htt : tget T t with
  | none => simp [htt] at hk
  | some ti =>
  simp only [htt, Option.map_some, Option.some.injEq] at hk
  have hu := (hT _ _ htt).und
  rw [hk] at hu
  simp only [TK.fits] at hu
  have hgd : (eqGuard .neq t x y (.bool a) (.bool b)).run P c.w = .ok () c.w := rfl
  have heq : (Op.equal t (.bool a) (.bool b)).run P c.w = .ok (a == b) c.w := by
    have hd : ∀ d : Nat, (Op.equalIn (d + 1) t (.bool a) (.bool b)).run P c.w = .ok (a == b) c.w := fun d => by simp [Op.equalIn, run_underlying hu]
    exact hd 9999
  simp only [execOp, hvx, hvy, Sem.run_bind, hgd, Result.andThen_ok, binOp, heq, Sem.run_pure]
  rw [← hr]; rfl
/-! A region that draws its order, behind whose plan several orders are left. -/
def allJ (p : Nat → Prop) : List Nat → Prop
  | [] => True
  | j :: r => p j ∧ allJ p r
theorem allJ_mem {p : Nat → Prop} : ∀ {l : List Nat}, allJ p l → ∀ j ∈ l, p j
  | [], _, j, h => by cases h
  | k :: r, h, j, hj => by
    rcases List.mem_cons.1 hj with rfl | hj
    · exact h.1
    · exact allJ_mem h.2 j hj
def SeqT (F : Fr) (ops : Array Oper) (K : St → Prop) : Nat → Array Bool → St → Prop
  | 0, listed, s => Region.ready .any ops listed = [] ∧ K s
  | n + 1, listed, s => Region.ready .any ops listed ≠ [] ∧ allJ (fun j => ∃ o, ops[j]? = some o ∧ Seq F ops [o] s (SeqT F ops K n (listed.setIfInBounds j true))) (Region.ready .any ops listed)
theorem SeqT.end {F : Fr} {ops : Array Oper} {K : St → Prop} {listed : Array Bool} {s : St} (hr : Region.ready .any ops listed = []) (h : K s) : SeqT F ops K 0 listed s := ⟨hr, h⟩
theorem SeqT.one {F : Fr} {ops : Array Oper} {K : St → Prop} {n : Nat} {listed : Array Bool} {s : St} (j : Nat) {o : Oper} (hr : Region.ready .any ops listed = [j]) (ho : ops[j]? = some o) (h : Seq F ops [o] s (SeqT F ops K n (listed.setIfInBounds j true))) : SeqT F ops K (n + 1) listed s := by
  refine ⟨by rw [hr]; simp, ?_⟩
  rw [hr]; exact ⟨⟨o, ho, h⟩, trivial⟩
theorem SeqT.two {F : Fr} {ops : Array Oper} {K : St → Prop} {n : Nat} {listed : Array Bool} {s : St} (j i : Nat) {o q : Oper} (hr : Region.ready .any ops listed = [j, i]) (ho : ops[j]? = some o) (hq : ops[i]? = some q) (h : Seq F ops [o] s (SeqT F ops K n (listed.setIfInBounds j true))) (h2 : Seq F ops [q] s (SeqT F ops K n (listed.setIfInBounds i true))) : SeqT F ops K (n + 1) listed s := by
  refine ⟨by rw [hr]; simp, ?_⟩
  rw [hr]; exact ⟨⟨o, ho, h⟩, ⟨q, hq, h2⟩, trivial⟩
theorem seqT_wp {F : Fr} {ops : Array Oper} {K : St → Prop} {Q : Exit → Act → World → Prop} (hQ : ∀ s' a w, K s' → Sim F s' a w → Q .normal a w) : ∀ (n : Nat) (listed : Array Bool) (s : St), SeqT F ops K n listed s → ∀ a w, Sim F s a w → wpAny F.P .any ops Q n listed a w
  | 0, _, _, h, a, w, hs => ⟨h.1, hQ _ a w h.2 hs⟩
  | n + 1, listed, s, h, a, w, hs => ⟨fun hr => absurd hr h.1, fun j hj => by
    obtain ⟨o, ho, hq⟩ := allJ_mem h.2 j hj
    exact Go.Chain.wpOp_of_list ho (hq.wp (fun s' a' w' h1 h2 => seqT_wp hQ n _ s' h1 a' w' h2) a w hs)⟩
def drawTB (ops : Array Oper) (n : Nat) (plan : List (Nat × Nat)) (m : Nat) : Bool :=
  nodupB ((mkP plan).map (·.1)) && (((mkP plan).map (·.1)).all (fun j => Nat.blt j ops.size && (match dstOf ops j with | some d => Nat.blt d n | none => false)) && (nodupB (dstsOf ops (mkP plan)) && (Og.acyc ops && (((List.range ops.size).all fun j => memB j ((mkP plan).map (·.1)) || ((mkP plan).map (·.1)).all fun i => Og.cov ops (List.range ops.size) ops.size j i) &&
    (ancM ops plan plan 0 && Nat.beq (m + ((mkP plan).map (·.1)).length) ops.size)))))
theorem VC.drawT {F : Fr} {id : Nat} {l : List Oper} {e h g : Asc} {N : Nat} {Q : Exit → St → Prop} (plan : List (Nat × Nat)) (m : Nat) (hm : F.P.follows .mixedOrders = true) (hst : drawTB l.toArray F.n plan m = true) {e0 : Asc} (he0 : dropO e (dstsOf l.toArray (mkP plan)) some = some e0)
    (hD : DSeq F.P l.toArray g e0 h (mkP plan) [] N [] (fun its N' _ => SeqT F l.toArray (Q .normal) m (afterL l.toArray ((mkP plan).map (·.1))) (V.drawn its e0 h g N'))) : VC F (.region id l.toArray true) Q ⟨e, h, g, N⟩ := by
  simp only [drawTB, Bool.and_eq_true] at hst
  obtain ⟨s1, s2, s3, s4, s5, s6, s7⟩ := hst
  intro a w hsim QC hQ
  refine F.L.any hm (Og.acyc_def s4) ?_
  obtain ⟨its, N', B', I, hseq, hmap, _, hdj, hitems, hinit, hfin⟩ := drawn_core (B := []) (mkP plan) (fun _ _ h => by cases h) s1 s2 s3 s4 (ancM_ok (fun i hi => by rw [tbb_zero] at hi; cases hi) s6) he0 hD a w hsim
  have hP := nodupB_ok s1
  have hsz0 : l.toArray.size = m + ((mkP plan).map (·.1)).length := (Nat.eq_of_beq_eq_true s7).symm
  suffices hgoal : wpAny F.P .any l.toArray QC (m + ((mkP plan).map (·.1)).length) (Array.replicate l.toArray.size false) a { w with drawn := w.drawn + 1 } by rw [hsz0.symm] at hgoal; exact hgoal
  refine og3 (I := I) (ds := (mkP plan).map (·.1)) hP (fun j hj => ?_) s4 (fun j hj => ?_) (fun rem hnd hsub j hj hwj hdown a w hJ => hitems QC rem hnd hsub j hj hwj hdown a w hJ) (fun a w hJ => ?_) _ ((mkP plan).map (·.1)) (Array.replicate l.toArray.size false) a _ rfl hP (fun i hi => hi) (by simp) (fun i hi => ?_) (fun j o ho hl => ?_) hinit
  · have := List.all_eq_true.1 s2 j hj
    simp only [Bool.and_eq_true] at this
    simpa [Nat.blt_eq] using this.1
  · have := List.all_eq_true.1 s5 j (List.mem_range.2 hj)
    rw [Bool.or_eq_true] at this
    exact this.imp memB_ok.1 fun h1 i hi => ⟨_, _, List.all_eq_true.1 h1 i hi⟩
  · obtain ⟨c, ns, Bx, hBx, rfl, hout, hen, hsl, hA, hsz, hdf, hN0, hgl⟩ := hfin _ _ _ hJ
    have hBx0 : Bx = [] := by
      cases Bx with
      | nil => rfl
      | cons p r =>
        obtain ⟨k, v⟩ := p
        have := hBx k v (by rw [get?_cons, if_pos rfl])
        cases this
    subst hBx0
    have hnr : nrem [] = allB := rfl
    rw [hnr, List.nil_append] at hout
    refine seqT_wp (fun s' a' w' hq hs' => hQ _ _ _ _ hq hs') m _ _ hseq a c.w ⟨c, ns, rfl, hout, ⟨fun t v ht => ?_, hen.glob⟩, hA, hsz, hdf, hN0, hgl⟩
    have ht : get? (selE allB its ++ e0) t = some v := ht
    rw [get?_app] at ht
    cases hs : get? (selE allB its) t with
    | none => rw [hs] at ht; exact hen.slot t v ht
    | some u =>
      rw [hs] at ht
      simp only [Option.some_or, Option.some.injEq] at ht
      subst ht
      obtain ⟨x, hx, _, rfl, rfl⟩ := selE_get hs
      exact hsl x hx (by simp)
  · constructor
    · intro h; rw [Og.repF] at h; cases h
    · rintro ⟨h1, h2⟩; exact absurd h1 h2
  · rw [Og.repF] at hl; cases hl
theorem SeqT.drawn {F : Fr} {ops : Array Oper} {K : St → Prop} {n : Nat} {listed : Array Bool} {its : List It} {e0 h0 g e' h' : Asc} {N : Nat} (hE : selEO allB e0 its some = some e') (hH : selHO allB h0 its some = some h') (h : SeqT F ops K n listed ⟨e', h', g, N⟩) : SeqT F ops K n listed (V.drawn its e0 h0 g N) := by
  rw [selEO_eq] at hE
  rw [selHO_eq] at hH
  cases hE; cases hH
  exact h
end Go.V

namespace Go.V
open Go.RowKit Go.L
theorem Ok.ren {P : Program} {f : FuncId} {g h : Asc} {args r0 r1 : AV} {h1 h2 : Asc} (N0 N' : Nat) (σ : List (Nat × Nat)) (k : Ok P f g h args (fun r h' => r = r0 ∧ h' = h1))
    (hN : ∀ i av, get? h i = some av → i < N0) (hb : renB σ N0 (keys h2) N' = true) (he : RelA (fun i => memB i (keys h2) = true) (sg σ) r1 r0) (hh : HeapLe (fun i => memB i (keys h2) = true) (sg σ) h1 h2) : Ok P f g h args (fun r h' => r = r1 ∧ h' = h2) := by
  intro c hg hhp hc hB hA vs hvs
  refine (k c hg hhp hc hB hA vs hvs).mono fun e w' q => ?_
  obtain ⟨c', v, r, h', ns, e1, e2, ho, hr, rfl, rfl⟩ := q
  obtain ⟨M, hM⟩ : ∃ M, ∀ i, i ∈ ns → i < M := ⟨ns.foldr (fun a b => a + 1 + b) 0, by
    clear ho hr
    induction ns with
    | nil => intro i hi; cases hi
    | cons a l ih =>
      intro i hi
      show i < a + 1 + _
      rcases List.mem_cons.1 hi with rfl | hi
      · omega
      · have := ih i hi; omega⟩
  let a : Act := ⟨#[v], []⟩
  have hs : Sim ⟨P, c, h, 1, N0, [], .plain P⟩ ⟨[(0, r)], h', [], M + N0⟩ a c'.w := by
    refine ⟨c', ns, rfl, ho, ⟨fun t u ht => ?_, fun x u hx => by cases hx⟩, fun i hi => ?_, rfl, rfl, fun i hi => ?_, fun x u hx => by cases hx⟩
    · by_cases h0 : t = 0
      · subst h0
        obtain rfl : r = u := Option.some.inj ht
        exact ⟨by show 0 < 1; decide, hr⟩
      · have hk := get?_keys (show get? [(0, r)] t = some u from ht)
        exact absurd (List.mem_singleton.1 hk) h0
    · rcases ho.A i hi with h1 | h1
      · obtain ⟨av, h2⟩ := hA i h1
        have := hN i av h2; show i < M + N0; omega
      · have := hM i h1; show i < M + N0; omega
    · obtain ⟨av, h2⟩ := hA i hi
      exact hN i av h2
  obtain ⟨c2, ns2, hw, ho2, hen2, _⟩ := Sim.ren (F := ⟨P, c, h, 1, N0, [], .plain P⟩) (s := ⟨[(0, r)], h', [], M + N0⟩) (s' := ⟨[(0, r1)], h2, [], N'⟩) σ hb rfl ⟨⟨r, rfl, he⟩, trivial⟩ hh a c'.w hs
  exact ⟨c2, v, r1, h2, ns2, e1, hw.trans e2, ho2, (hen2.slot 0 r1 rfl).2, rfl, rfl⟩
/-- What a value is, when some objects become memory that stays; nested. -/
inductive ViewN (H : Asc) (bor D : Nat → Prop) : AV → AV → Prop
  | rel {a u : AV} : RelA D (fun i => i) a u → ViewN H bor D a u
  | sl {id n' sz off n m : Nat} {p : List Step} {av : AV} {f k : Nat → AV} : get? H id = some av → getp av p = some (.arr n' sz k) → AllP (inbL av p) → off + n ≤ n' → m = n → bor id → (∀ i, i < n → ViewN H bor D (f i) (k (off + i))) → ViewN H bor D (.rsl false m sz f) (.sl id p sz off n)
  | nil {sz : Nat} {f : Nat → AV} : ViewN H bor D (.rsl false 0 sz f) (.val (.slice none 0 0))
  | emp {sz : Nat} {f : Nat → AV} : ViewN H bor D (.rsl false 0 sz f) .emp
  | ptr {id : Nat} {p : List Step} {av w a : AV} : get? H id = some av → getp av p = some w → AllP (inbL av p) → w.isMo = false → bor id → ViewN H bor D a w → ViewN H bor D (.rptr false a) (.ptr id p)
  | pair {a b x y : AV} : ViewN H bor D a x → ViewN H bor D b y → ViewN H bor D (.pair a b) (.pair x y)
  | tup {a x : AV} : ViewN H bor D a x → ViewN H bor D (.tup a) (.tup x)
  | fn {f : Fn} {a b x y : AV} : ViewN H bor D a x → ViewN H bor D b y → ViewN H bor D (.fn f a b) (.fn f x y)
  | ifc {t : TypeId} {a x : AV} : ViewN H bor D a x → ViewN H bor D (.ifc t a) (.ifc t x)
  | arr {n m sz : Nat} {f k : Nat → AV} : n = m → (∀ i, i < n → ViewN H bor D (f i) (k i)) → ViewN H bor D (.arr n sz f) (.arr m sz k)
theorem ViewN.rep {H : Asc} {bor D : Nat → Prop} {c c0 : Ctx} (hp : Pass false false c c0 D (fun i => i)) (hh : HeapRep c H) (hb : ∀ id av, get? H id = some av → bor id → ¬ c.G id → c0.S (c.ρ id)) {a u : AV} (h : ViewN H bor D a u) : ∀ {m : Md} {vs : List Value}, Rep c u m vs → Rep c0 a m vs := by
  induction h with
  | rel hr => intro m vs hu; exact hu.pass hp hr (fun e => by cases e) (fun e => by cases e)
  | nil =>
    intro m vs hu
    exact ⟨none, 0, hu.1, Nat.le_refl _, Nat.zero_le _, .inl rfl⟩
  | emp =>
    intro m vs hu
    obtain ⟨ad, hu⟩ := hu
    exact ⟨ad, 0, hu, Nat.le_refl _, Nat.zero_le _, .inl rfl⟩
  | @sl id n' sz off n m p av f k h1 h2 h3 h4 hm h5 h6 ih =>
    subst hm
    intro md vs hu
    obtain ⟨_, ⟨_, hz, ad, e⟩ | ⟨hG, o, cap, e, ho, h7, h8, _⟩⟩ := hu
    · exact ⟨ad, 0, by rw [e, hz], by omega, Nat.zero_le _, .inl hz⟩
    · refine ⟨_, cap, e, h7, h8, ?_⟩
      by_cases hn0 : m = 0
      · exact .inl hn0
      obtain ⟨xs, q1, q2, q3⟩ := (hh.obj id av h1 hG).path h2 (inbL_ok h3) rfl
      have hmul : off * sz + m * sz ≤ n' * sz := by rw [← Nat.add_mul]; exact Nat.mul_le_mul_right _ h4
      have ho3 : o = pathOff p + off * sz := by rcases ho with ho | ho; omega; exact ho
      refine .inr ⟨c.ρ id, o, sub xs (off * sz) (m * sz), rfl, hb id av h1 h5 hG, (fun e => by cases e), by rw [ho3, hp.w]; exact q1.sub _ _, sub_len (by omega), fun i hi => ?_⟩
      have hm2 : i * sz + sz ≤ m * sz := by
        have := Nat.mul_le_mul_right sz (show i + 1 ≤ m from hi)
        rwa [Nat.add_mul, Nat.one_mul] at this
      rw [sub_sub _ _ _ _ _ hm2, ← Nat.add_mul]
      exact ih i hi (q3 _ (by omega))
  | @ptr id p av w a h1 h2 h3 hmo h4 h5 ih =>
    intro m vs hu
    obtain ⟨_, hG, e⟩ := hu
    obtain ⟨xs, q1, q2⟩ := (hh.obj id av h1 hG).path h2 (inbL_ok h3) hmo
    exact ⟨c.ρ id, pathOff p, xs, e, hb id av h1 h4 hG, (fun e => by cases e), by rw [hp.w]; exact q1, ih q2⟩
  | pair _ _ iha ihb =>
    intro m vs hu
    cases m <;> obtain ⟨p, q, e, h3, h4⟩ := hu <;> exact ⟨p, q, e, iha h3, ihb h4⟩
  | tup _ ih =>
    intro m vs hu
    cases m
    · exact hu
    · obtain ⟨xs, e, hx⟩ := hu; exact ⟨xs, e, ih hx⟩
    · obtain ⟨xs, e, hx⟩ := hu; exact ⟨xs, e, ih hx⟩
  | fn _ _ iha ihb =>
    intro m vs hu
    obtain ⟨fs, cs, e, h3, h4⟩ := hu
    exact ⟨fs, cs, e, iha h3, ihb h4⟩
  | ifc _ ih =>
    intro m vs hu
    obtain ⟨v, e, h3⟩ := hu
    exact ⟨v, e, ih h3⟩
  | arr hn _ ih =>
    subst hn
    intro m vs hu
    cases m
    · exact ⟨hu.1, fun i hi => ih i hi (hu.2 i hi)⟩
    · obtain ⟨xs, e, h2, h3⟩ := hu; exact ⟨xs, e, h2, fun i hi => ih i hi (h3 i hi)⟩
    · obtain ⟨xs, e, h2, h3⟩ := hu; exact ⟨xs, e, h2, fun i hi => ih i hi (h3 i hi)⟩
def HeapN (H : Asc) (bor D : Nat → Prop) : Asc → Prop
  | [] => True
  | (t, v) :: r => (∃ u, get? H t = some u ∧ ViewN H bor D v u ∧ v.size = u.size) ∧ HeapN H bor D r
theorem HeapN.nil {H : Asc} {bor D : Nat → Prop} : HeapN H bor D [] := trivial
theorem HeapN.cons {H : Asc} {bor D : Nat → Prop} {r : Asc} {t : Nat} {v u : AV} (h : get? H t = some u) (h1 : ViewN H bor D v u) (h4 : v.size = u.size) (h3 : HeapN H bor D r) : HeapN H bor D ((t, v) :: r) := ⟨⟨u, h, h1, h4⟩, h3⟩
theorem heapN_get {H : Asc} {bor D : Nat → Prop} : ∀ {e' : Asc}, HeapN H bor D e' → ∀ t v, get? e' t = some v → ∃ u, get? H t = some u ∧ ViewN H bor D v u ∧ v.size = u.size
  | [], _, t, v, h => by cases h
  | (k, w) :: r, h, t, v, hg => by
    rw [get?_cons] at hg
    by_cases e : k = t
    · rw [if_pos e] at hg; cases hg; subst e; exact h.1
    · rw [if_neg e] at hg; exact heapN_get h.2 t v hg
def EnvN (H : Asc) (bor D : Nat → Prop) (e : Asc) : Asc → Prop
  | [] => True
  | (t, v) :: r => (∃ u, get? e t = some u ∧ ViewN H bor D v u) ∧ EnvN H bor D e r
theorem EnvN.nil {H e : Asc} {bor D : Nat → Prop} : EnvN H bor D e [] := trivial
theorem EnvN.cons {H e r : Asc} {bor D : Nat → Prop} {t : Nat} {v u : AV} (h : get? e t = some u) (h1 : ViewN H bor D v u) (h2 : EnvN H bor D e r) : EnvN H bor D e ((t, v) :: r) := ⟨⟨u, h, h1⟩, h2⟩
theorem envN_get {H e : Asc} {bor D : Nat → Prop} : ∀ {e' : Asc}, EnvN H bor D e e' → ∀ t v, get? e' t = some v → ∃ u, get? e t = some u ∧ ViewN H bor D v u
  | [], _, t, v, h => by cases h
  | (k, w) :: r, h, t, v, hg => by
    rw [get?_cons] at hg
    by_cases e : k = t
    · rw [if_pos e] at hg; cases hg; subst e; exact h.1
    · rw [if_neg e] at hg; exact envN_get h.2 t v hg
/-- Some objects become memory that stays, nested ones too. -/
theorem Sim.stillN {F : Fr} {e h g e' h' : Asc} {N : Nat} (ids : List Nat) (hd : (keys h').all (fun i => !memB i ids) = true) (hs : HeapN h (fun i => memB i ids = true) (fun i => memB i (keys h') = true) h') (he : EnvN h (fun i => memB i ids = true) (fun i => memB i (keys h') = true) e e') :
    ∀ a w, Sim F ⟨e, h, g, N⟩ a w → Sim F ⟨e', h', g, N⟩ a w := by
  rintro a w ⟨c, ns, rfl, hout, hen, hA, r⟩
  have hdis : ∀ i av, get? h' i = some av → ¬ (memB i ids = true) := fun i av hi hm => by
    have := List.all_eq_true.1 hd i (get?_keys hi)
    rw [hm] at this; cases this
  have hp : Pass false false c { c with S := fun b => c.S b ∨ ∃ i av, get? h i = some av ∧ ¬ c.G i ∧ memB i ids = true ∧ c.ρ i = b } (fun i => memB i (keys h') = true) (fun i => i) := ⟨rfl, fun i hi => by
      obtain ⟨av, hav⟩ := keys_get (memB_ok.1 hi)
      obtain ⟨u, hu, _⟩ := heapN_get hs i av hav
      exact hout.heap.A i u hu, fun _ _ => rfl, fun _ _ => Iff.rfl, fun b hb _ => .inl hb, fun _ => Nat.le_refl _⟩
  have hvr : ∀ {a u : AV}, ViewN h (fun i => memB i ids = true) (fun i => memB i (keys h') = true) a u → ∀ {m : Md} {vs : List Value}, Rep c u m vs → Rep { c with S := fun b => c.S b ∨ ∃ i av, get? h i = some av ∧ ¬ c.G i ∧ memB i ids = true ∧ c.ρ i = b } a m vs :=
    by intro a u hv m vs hu; exact hv.rep hp hout.heap (fun id av hi hb hG => .inr ⟨id, av, hi, hG, hb, rfl⟩) hu
  have ho2 := Out.stillV (c := c) (h := h) (h' := h') (fun i => memB i ids = true) hout.heap hout.ok hdis (fun i av hi => by
    obtain ⟨u, hu, h1, h3⟩ := heapN_get hs i av hi
    refine ⟨u, hu, h3, fun hG => ?_⟩
    refine (hout.heap.obj i u hu hG).to rfl (fun xs hx => hvr h1 hx) (fun n k v e => ?_) (fun b o e => by
      subst e
      cases h1 with
      | rel hr => exact relA_ob hr)
    subst e
    cases h1 with
    | rel hr =>
      obtain ⟨ks, vs, rfl, e2⟩ := relA_mo hr
      exact ⟨ks, vs, rfl, fun i hi => ⟨fun x hx => hvr (.rel (e2 i hi).1) hx, fun x hx => hvr (.rel (e2 i hi).2) hx⟩⟩)
  refine ⟨{ c with S := fun b => c.S b ∨ ∃ i av, get? h i = some av ∧ ¬ c.G i ∧ memB i ids = true ∧ c.ρ i = b }, _, rfl, hout.trans ho2, ⟨fun t v hv => ?_, (hen.le ho2.le).glob⟩, hA, r⟩
  obtain ⟨u, h1, h2⟩ := envN_get he t v hv
  obtain ⟨q1, q2⟩ := hen.slot t u h1
  exact ⟨q1, hvr h2 q2⟩
/-- What is left of a drawn region when its eater has eaten. -/
def EatenQ (F : Fr) (ops : Array Oper) (tops : List Oper) (e0 hA g : Asc) (K : St → Prop) (its : List It) (N' : Nat) (B' : Asc) : Prop := B' = [] ∧ Seq F ops tops (V.drawn its e0 (B' ++ hA) g N') K
theorem EatenQ.mk {F : Fr} {ops : Array Oper} {tops : List Oper} {e0 hA g : Asc} {K : St → Prop} {its : List It} {N' : Nat} (h : Seq F ops tops (V.drawn its e0 hA g N') K) : EatenQ F ops tops e0 hA g K its N' [] := ⟨rfl, h⟩
def EatenT (F : Fr) (ops : Array Oper) (K : St → Prop) (m : Nat) (listed : Array Bool) (e0 hA g : Asc) (its : List It) (N' : Nat) (B' : Asc) : Prop := B' = [] ∧ SeqT F ops K m listed (V.drawn its e0 (B' ++ hA) g N')
theorem EatenT.mk {F : Fr} {ops : Array Oper} {K : St → Prop} {m : Nat} {listed : Array Bool} {e0 hA g e' h' : Asc} {its : List It} {N' : Nat} (hE : selEO allB e0 its some = some e') (hH : selHO allB hA its some = some h') (h : SeqT F ops K m listed ⟨e', h', g, N'⟩) : EatenT F ops K m listed e0 hA g its N' [] := ⟨rfl, SeqT.drawn (h0 := hA) hE hH h⟩
section
variable {P : Program} {g e h : Asc} {x y : Operand} {d : Option Tmp} {ty t yt : TypeId} {pos : String} {af : Array Edge} {gd : Option (Nat × Bool)}
end
end Go.V
