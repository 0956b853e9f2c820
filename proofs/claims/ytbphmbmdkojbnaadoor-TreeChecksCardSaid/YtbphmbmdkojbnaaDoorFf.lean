
/- Rows that grow, over whatever elements. -/
import Derived.Test.YtbphmbmdkojbnaaDoorFe
set_option linter.unusedSimpArgs false
set_option linter.unusedVariables false
namespace Go.V
open Go.RowKit Go.L
theorem joinF_snocG {Y : Type} {F : Y → AV} {d0 : Y} {n : Nat} {l : List Y} {x : Y} {k : Nat → AV} (hl : l.length = n) {i : Nat} (hi : i < n + 1) (hk : k 0 = F x) : joinF n (fun i => F (l.getD i d0)) k i = F ((l ++ [x]).getD i d0) := by
  subst hl
  by_cases h : i < l.length
  · rw [joinF_lt h, List.getD_eq_getElem?_getD, List.getD_eq_getElem?_getD, List.getElem?_append_left h]
  · obtain rfl : i = l.length := by omega
    rw [joinF_ge (Nat.le_refl _), Nat.sub_self, hk]
    simp
theorem joinF_appG {Y : Type} {F : Y → AV} {d0 : Y} {n m : Nat} {l l2 : List Y} {k : Nat → AV} (hl : l.length = n) (hm : l2.length = m) (hk : ∀ i, i < m → k i = F (l2.getD i d0)) {i : Nat} (hi : i < n + m) : joinF n (fun i => F (l.getD i d0)) k i = F ((l ++ l2).getD i d0) := by
  subst hl
  by_cases h : i < l.length
  · rw [joinF_lt h, List.getD_eq_getElem?_getD, List.getD_eq_getElem?_getD, List.getElem?_append_left h]
  · rw [joinF_ge (by omega), hk _ (by omega), List.getD_eq_getElem?_getD, List.getD_eq_getElem?_getD, List.getElem?_append_right (by omega)]
theorem RelA.tup {A : Nat → Prop} {σ : Nat → Nat} {a x : AV} (h : RelA A σ a x) : RelA A σ (.tup a) (.tup x) := ⟨x, rfl, h⟩
/-- An object that is a nil slice becomes one that speaks of an object of length 0. -/
theorem Sim.ghostO {F : Fr} {e h h' g : Asc} {N : Nat} (id sz : Nat) (f : Nat → AV) (ho : get? h id = some (.val (.slice none 0 0))) (hp : putK h id (.sl N [] sz 0 0) some = some h') :
    ∀ a w, Sim F ⟨e, h, g, N⟩ a w → Sim F ⟨e, (N, .arr 0 sz f) :: h', g, N + 1⟩ a w := by
  rw [putK_eq] at hp
  cases hp
  rintro a w ⟨c, ns, rfl, hout, he, hA, r⟩
  have hN : ¬ c.A N := fun h => by have : N < N := hA N h; omega
  have hne : N ≠ id := fun e => hN (e ▸ hout.heap.A id _ ho)
  have ho2 := Out.ghost (N := N) (av := .arr 0 sz f) hout.heap hout.ok hN (by simp [AV.size])
  have ho3 := hout.trans ho2
  have hi3 : get? ((N, AV.arr 0 sz f) :: h) id = some (.val (.slice none 0 0)) := by rw [get?_cons, if_neg hne]; exact ho
  have ho4 := ho3.swap (av' := .sl N [] sz 0 0) hi3 rfl (fun ws hw => by
    have hw : ws = [_] := hw.1
    exact ⟨.inr rfl, .inl ⟨.inr rfl, rfl, none, hw⟩⟩)
  refine ⟨{ c with A := fun i => c.A i ∨ i = N, G := fun i => c.G i ∨ i = N }, _, rfl, ho4.shrink fun i u hu => ?_, ⟨fun t v hv => (he.le ho2.le).slot t v hv, (he.le ho2.le).glob⟩, fun i hi => ?_, r⟩
  · rw [get?_putL]
    rw [get?_cons, get?_putL] at hu
    rw [get?_cons]
    by_cases e1 : N = i
    · subst e1
      rw [if_pos rfl] at hu
      rw [if_neg (Ne.symm hne), if_pos rfl]; exact hu
    · rw [if_neg e1] at hu
      rw [if_neg e1]; exact hu
  · show i < N + 1
    rcases hi with hi | hi
    · have : i < N := hA i hi
      omega
    · omega
section
variable {P : Program} {t : TypeId} {g e h : Asc} {x y : Operand} {d : Option Tmp} {ty : TypeId} {pos : String} {af : Array Edge} {gd : Option (Nat × Bool)}
theorem nearr_ok {T : List (Option TI)} (hT : TabOk P T) {n eT : Nat} {k : IntKind} {a b : Nat → Int} {yt : TypeId} (hk : (tget T t).map (·.kind) = some (.array n eT)) (hke : (tget T eT).map (·.kind) = some (.int k)) (hsz : (tget T eT).map (·.lay.size) = some 1)
    (hg : P.eqGuardType P.depth t = false) (hx : ev g e x = some (.arr n 1 (fun i => .int k (a i)))) (hy : ev g e y = some (.arr n 1 (fun i => .int k (b i)))) (r : Bool) (hr : r = false ↔ ∀ i, i < n → a i = b i) :
    OpOk P ⟨d, .binOp .neq t x y yt, ty, pos, af, gd⟩ g e h (some (.bool r)) h [] := by
  refine OpOk.val fun c ac he hh hc => ⟨.bool r, ?_, rfl⟩
  obtain ⟨xs, hvx, hxs⟩ := arr_vals (ev_rep he hx)
  obtain ⟨ys, hvy, hys⟩ := arr_vals (ev_rep he hy)
  cases htt : tget T t with
  | none => simp [htt] at hk
  | some ti =>
  cases hte : tget T eT with
  | none => simp [hte] at hke
  | some tie =>
  simp only [htt, hte, Option.map_some, Option.some.injEq] at hk hke hsz
  have hu := (hT _ _ htt).und
  have hue := (hT _ _ hte).und
  rw [hk] at hu
  rw [hke] at hue
  simp only [TK.fits] at hu hue
  obtain ⟨ie, z, hie, hse, _⟩ := (hT _ _ hte).info
  have hce : P.cellsOf eT = 1 := by simp [Program.cellsOf, hie, hse, hsz]
  have hall : ((List.range n).all fun i => decide (a i = b i)) = !r := by
    rw [Bool.eq_iff_iff, List.all_eq_true, Bool.not_eq_true', hr]
    constructor
    · intro h i hi; simpa using h i (List.mem_range.2 hi)
    · intro h i hi; simpa using h i (List.mem_range.1 hi)
  have heq : (Op.equal t (.agg xs) (.agg ys)).run P c.w = .ok (!r) c.w := by
    show (Op.equalIn (9998 + 1 + 1) t (.agg xs) (.agg ys)).run P c.w = _
    rw [run_equalIn_array c.w _ xs ys hu hie, hce, run_eqItems_int hue _ xs ys a b n hxs hys c.w _ (fun i hi => List.mem_range.1 hi), hall]
  have hgd : (eqGuard .neq t x y (.agg xs) (.agg ys)).run P c.w = .ok () c.w := by simp [eqGuard, program, Sem.run, hg]
  simp only [execOp, hvx, hvy, Sem.run_bind, hgd, Result.andThen_ok, binOp, heq, Sem.run_pure, Bool.not_not]
end
theorem Seq.nearr {F : Fr} {ops : Array Oper} {lo : List Oper} {e h g : Asc} {N : Nat} {K : St → Prop} {d : Tmp} {ty : TypeId} {pos : String} {af : Array Edge} {gd : Option (Nat × Bool)} (r : Bool) {T : List (Option TI)} (hT : TabOk F.P T) {t yt : TypeId} {x y : Operand} {n eT : Nat} {k : IntKind} {a b : Nat → Int}
    (hk : (tget T t).map (·.kind) = some (.array n eT)) (hke : (tget T eT).map (·.kind) = some (.int k)) (hsz : (tget T eT).map (·.lay.size) = some 1) (hg : F.P.eqGuardType F.P.depth t = false)
    (hx : V.ev g e x = some (.arr n 1 (fun i => .int k (a i)))) (hy : V.ev g e y = some (.arr n 1 (fun i => .int k (b i)))) (hw : wants ops ⟨some d, .binOp .neq t x y yt, ty, pos, af, gd⟩ e = some true) (hd2 : Nat.blt d F.n = true) (hr : r = false ↔ ∀ i, i < n → a i = b i)
    (hn : Seq F ops lo ⟨(d, .bool r) :: e, h, g, N⟩ K) : Seq F ops (⟨some d, .binOp .neq t x y yt, ty, pos, af, gd⟩ :: lo) ⟨e, h, g, N⟩ K :=
  Seq.step (s := ⟨e, h, g, N⟩) N hw (nearr_ok hT hk hke hsz hg hx hy r hr) (fun n hn => by cases hn) (Nat.le_refl _) hd2 hn
theorem DSeq.nearr {P : Program} {ops : Array Oper} {g e0 h0 : Asc} {j : Nat} {anc : List Nat} {r : List (Nat × List Nat)} {its its' : List It} {N : Nat} {B : Asc} {K : List It → Nat → Asc → Prop} {eL hL : Asc} (q : Bool) {T : List (Option TI)} (hT : TabOk P T) {d : Tmp} {ty : TypeId} {pos : String} {af : Array Edge} {gd : Option (Nat × Bool)} {t yt : TypeId} {x y : Operand} {n eT : Nat} {k : IntKind} {a b : Nat → Int} (ho : ops[j]? = some ⟨some d, .binOp .neq t x y yt, ty, pos, af, gd⟩)
    (hE : selEO (fun i => memB i anc) e0 its some = some eL) (hH : selHO (fun i => memB i anc) h0 its some = some hL)
    (hk : (tget T t).map (·.kind) = some (.array n eT)) (hke : (tget T eT).map (·.kind) = some (.int k)) (hsz : (tget T eT).map (·.lay.size) = some 1) (hg : P.eqGuardType P.depth t = false)
    (hx : V.ev g eL x = some (.arr n 1 (fun i => .int k (a i)))) (hy : V.ev g eL y = some (.arr n 1 (fun i => .int k (b i)))) (hw : wants ops ⟨some d, .binOp .neq t x y yt, ty, pos, af, gd⟩ eL = some true) (hr : q = false ↔ ∀ i, i < n → a i = b i)
    (hs : snocO its ⟨j, d, .bool q, []⟩ some = some its') (h : DSeq P ops g e0 h0 r its' N B K) : DSeq P ops g e0 h0 ((j, anc) :: r) its N B K :=
  DSeq.put (n := []) ho hE hH hw (nearr_ok hT hk hke hsz hg hx hy q hr) (fun i hi => by cases hi) (Nat.le_refl _) hs h
theorem NoFr.bif {b : Bool} {x y : AV} (h1 : NoFr x) (h2 : NoFr y) : NoFr (bif b then x else y) := by cases b <;> assumption
theorem NoId.bif {b : Bool} {x y : AV} (h1 : NoId x) (h2 : NoId y) : NoId (bif b then x else y) := by cases b <;> assumption
theorem AllFr.bif {b : Bool} {x y : AV} (h1 : AllFr x) (h2 : AllFr y) : AllFr (bif b then x else y) := by cases b <;> assumption
theorem RelA.bif {A : Nat → Prop} {σ : Nat → Nat} {b : Bool} {x y x' y' : AV} (h1 : RelA A σ x x') (h2 : RelA A σ y y') : RelA A σ (bif b then x else y) (bif b then x' else y') := by cases b <;> assumption
theorem RelA.bif_int {A : Nat → Prop} {σ : Nat → Nat} {b : Bool} {x y : Int} {k l : IntKind} : RelA A σ (bif b then .int k x else .int l y) (bif b then .int k x else .int l y) := by cases b <;> exact rfl
theorem DSeq.eqarrf {P : Program} {ops : Array Oper} {g e0 h0 : Asc} {j : Nat} {anc : List Nat} {r : List (Nat × List Nat)} {its its' : List It} {N : Nat} {B : Asc} {K : List It → Nat → Asc → Prop} {eL hL : Asc} (q : Bool) (a b : Nat → Int) {T : List (Option TI)} (hT : TabOk P T) {d : Tmp} {ty : TypeId} {pos : String} {af : Array Edge} {gd : Option (Nat × Bool)} {t yt : TypeId} {x y : Operand} {n eT : Nat} {k : IntKind} {f1 f2 : Nat → AV} (ho : ops[j]? = some ⟨some d, .binOp .eql t x y yt, ty, pos, af, gd⟩)
    (hE : selEO (fun i => memB i anc) e0 its some = some eL) (hH : selHO (fun i => memB i anc) h0 its some = some hL)
    (hk : (tget T t).map (·.kind) = some (.array n eT)) (hke : (tget T eT).map (·.kind) = some (.int k)) (hsz : (tget T eT).map (·.lay.size) = some 1) (hg : P.eqGuardType P.depth t = false)
    (hx : V.ev g eL x = some (.arr n 1 f1)) (hy : V.ev g eL y = some (.arr n 1 f2)) (hw : wants ops ⟨some d, .binOp .eql t x y yt, ty, pos, af, gd⟩ eL = some true) (hr : q = true ↔ ∀ i, i < n → a i = b i)
    (hs : snocO its ⟨j, d, .bool q, []⟩ some = some its') (h1 : ∀ i, f1 i = .int k (a i)) (h2 : ∀ i, f2 i = .int k (b i)) (h : DSeq P ops g e0 h0 r its' N B K) : DSeq P ops g e0 h0 ((j, anc) :: r) its N B K :=
  DSeq.eqarr q hT ho hE hH hk hke hsz hg (by rw [hx, show f1 = _ from funext h1]) (by rw [hy, show f2 = _ from funext h2]) hw hr hs h
theorem RelA.fn {A : Nat → Prop} {σ : Nat → Nat} {f : Fn} {a b x y : AV} (h1 : RelA A σ a x) (h2 : RelA A σ b y) : RelA A σ (.fn f a b) (.fn f x y) := ⟨x, y, rfl, h1, h2⟩
/-- Objects of the call's own that will not be changed any more become memory that stays as it is. -/
theorem Out.still {c : Ctx} {h h' : Asc} (D : Nat → Prop) (hh : HeapRep c h) (hc : CtxOk c) (hs : ∀ id av, get? h' id = some av → get? h id = some av) (hd : ∀ i av, get? h' i = some av → ¬ D i) :
    Out c h h' [] { c with S := fun b => c.S b ∨ ∃ i av, get? h i = some av ∧ ¬ c.G i ∧ D i ∧ c.ρ i = b } := by
  have hle : Le c { c with S := fun b => c.S b ∨ ∃ i av, get? h i = some av ∧ ¬ c.G i ∧ D i ∧ c.ρ i = b } := ⟨fun _ h => h, fun _ _ => rfl, fun _ _ => Iff.rfl, fun i _ _ => Nat.le_refl _, fun b hb _ => ⟨.inl hb, fun h => h, rfl⟩⟩
  refine ⟨hle, rfl, fun _ h => .inl h, ⟨fun i av hi => hh.A i av (hs i av hi), fun i av hi hGi => (hh.obj i av (hs i av hi) hGi).le hle rfl, fun i av hi hGi => hh.gh i av (hs i av hi) hGi, fun i av hi hGi hS => ?_, fun i j p q hi hj => hh.inj i j p q (hs i p hi) (hs j q hj)⟩, ⟨fun b hb => ?_, hc.B⟩, rfl, rfl, rfl, Nat.le_refl _, fun b hb hn => rfl, fun i av hi hGi => .inl ⟨i, av, hs i av hi, hGi, rfl⟩, fun b hb => ?_⟩
  · rcases hS with hS | ⟨j, aj, h1, h2, h3, h4⟩
    · exact hh.nS i av (hs i av hi) hGi hS
    · have := hh.inj i j _ _ (hs i av hi) h1 hGi h2 h4.symm
      exact hd i av hi (this ▸ h3)
  · rcases hb with hb | ⟨j, aj, h1, h2, h3, h4⟩
    · exact hc.S b hb
    · rw [← h4]; exact (hh.obj j aj h1 h2).lt
  · rcases hb with hb | ⟨j, aj, h1, h2, h3, h4⟩
    · exact .inl hb
    · exact .inr (.inr ⟨j, aj, h1, h2, h4⟩)
def EnvV (H : Asc) (bor D : Nat → Prop) (σ : Nat → Nat) (e : Asc) : Asc → Prop
  | [] => True
  | (t, v) :: r => (∃ u, get? e t = some u ∧ View H bor D σ v u ∧ NoFr v) ∧ EnvV H bor D σ e r
theorem EnvV.nil {H : Asc} {bor D : Nat → Prop} {σ : Nat → Nat} {e : Asc} : EnvV H bor D σ e [] := trivial
theorem EnvV.cons {H : Asc} {bor D : Nat → Prop} {σ : Nat → Nat} {e r : Asc} {t : Nat} {v u : AV} (h : get? e t = some u) (h1 : View H bor D σ v u) (h2 : NoFr v) (h3 : EnvV H bor D σ e r) : EnvV H bor D σ e ((t, v) :: r) := ⟨⟨u, h, h1, h2⟩, h3⟩
theorem envV_get {H : Asc} {bor D : Nat → Prop} {σ : Nat → Nat} {e : Asc} : ∀ {e' : Asc}, EnvV H bor D σ e e' → ∀ t v, get? e' t = some v → ∃ u, get? e t = some u ∧ View H bor D σ v u ∧ NoFr v
  | [], _, t, v, h => by cases h
  | (k, w) :: r, h, t, v, hg => by
    rw [get?_cons] at hg
    by_cases e : k = t
    · rw [if_pos e] at hg; cases hg; subst e; exact h.1
    · rw [if_neg e] at hg; exact envV_get h.2 t v hg
theorem Sim.still {F : Fr} {e h g e' h' : Asc} {N : Nat} (ids : List Nat) (hs : SubL h h') (hd : (keys h').all (fun i => !memB i ids) = true) (he : EnvV h (fun i => true = true ∧ memB i ids = true) (fun i => memB i (keys h') = true) (fun i => i) e e') :
    ∀ a w, Sim F ⟨e, h, g, N⟩ a w → Sim F ⟨e', h', g, N⟩ a w := by
  rintro a w ⟨c, ns, rfl, hout, hen, hA, r⟩
  have hsub := subL_ok hs
  have hdis : ∀ i av, get? h' i = some av → ¬ (memB i ids = true) := fun i av hi hm => by
    have := List.all_eq_true.1 hd i (get?_keys hi)
    rw [hm] at this; cases this
  have ho2 := Out.still (fun i => memB i ids = true) hout.heap hout.ok hsub hdis
  refine ⟨{ c with S := fun b => c.S b ∨ ∃ i av, get? h i = some av ∧ ¬ c.G i ∧ memB i ids = true ∧ c.ρ i = b }, _, rfl, hout.trans ho2, ⟨fun t v hv => ?_, (hen.le ho2.le).glob⟩, hA, r⟩
  obtain ⟨u, h1, h2, h3⟩ := envV_get he t v hv
  obtain ⟨q1, q2⟩ := hen.slot t u h1
  refine ⟨q1, h2.rep (c := c) (c0 := { c with S := fun b => c.S b ∨ ∃ i av, get? h i = some av ∧ ¬ c.G i ∧ memB i ids = true ∧ c.ρ i = b }) ⟨rfl, fun i hi => ?_, fun _ _ => rfl, fun _ _ => Iff.rfl, fun b hb _ => .inl hb, fun e => by cases e⟩ hout.heap (fun id av hi hb hG => .inr ⟨id, av, hi, hG, hb.2, rfl⟩) h3 q2⟩
  obtain ⟨av, hav⟩ := keys_get (memB_ok.1 hi)
  exact hout.heap.A i av (hsub i av hav)
theorem cat_ok {P : Program} {t yt ty : TypeId} {g e h : Asc} {x y : Operand} {d : Option Tmp} {pos : String} {af : Array Edge} {gd : Option (Nat × Bool)} {a b : List UInt8} (hx : V.ev g e x = some (.str a)) (hy : V.ev g e y = some (.str b)) (hl : a.length + b.length ≤ 9223372036854775807) :
    OpOk P ⟨d, .binOp .add t x y yt, ty, pos, af, gd⟩ g e h (some (.str (a ++ b))) h [] := by
  refine OpOk.val fun c ac he hh hc => ⟨.string ⟨(a ++ b).toArray⟩, ?_, rfl⟩
  have hvx := rep_str (ev_rep he hx)
  have hvy := rep_str (ev_rep he hy)
  have hgd : (eqGuard .add t x y (.string ⟨a.toArray⟩) (.string ⟨b.toArray⟩)).run P c.w = .ok () c.w := rfl
  have hs : (Op.stringOp .add ⟨a.toArray⟩ ⟨b.toArray⟩).run P c.w = .ok (.string ⟨(a ++ b).toArray⟩) c.w := by
    have := run_string_add_sum (P := P) c.w ⟨a.toArray⟩ ⟨b.toArray⟩ (by simpa [ByteArray.size] using hl)
    rw [this, ByteArray.mk_append_mk]
  simp only [execOp, hvx, hvy, Sem.run_bind, hgd, Result.andThen_ok, binOp_string_add, hs, Sem.run_pure]
theorem Seq.cat {F : Fr} {ops : Array Oper} {lo : List Oper} {e h g : Asc} {N : Nat} {K : St → Prop} {d : Tmp} {ty : TypeId} {pos : String} {af : Array Edge} {gd : Option (Nat × Bool)} {t yt : TypeId} {x y : Operand} {a b : List UInt8}
    (hx : V.ev g e x = some (.str a)) (hy : V.ev g e y = some (.str b)) (hw : wants ops ⟨some d, .binOp .add t x y yt, ty, pos, af, gd⟩ e = some true) (hd2 : Nat.blt d F.n = true) (hl : a.length + b.length ≤ 9223372036854775807)
    (hn : Seq F ops lo ⟨(d, .str (a ++ b)) :: e, h, g, N⟩ K) : Seq F ops (⟨some d, .binOp .add t x y yt, ty, pos, af, gd⟩ :: lo) ⟨e, h, g, N⟩ K :=
  Seq.step (s := ⟨e, h, g, N⟩) N hw (cat_ok hx hy hl) (fun n hn => by cases hn) (Nat.le_refl _) hd2 hn
theorem DSeq.cat {P : Program} {ops : Array Oper} {g e0 h0 : Asc} {j : Nat} {anc : List Nat} {r : List (Nat × List Nat)} {its its' : List It} {N : Nat} {B : Asc} {K : List It → Nat → Asc → Prop} {eL hL : Asc} {d : Tmp} {ty : TypeId} {pos : String} {af : Array Edge} {gd : Option (Nat × Bool)} {t yt : TypeId} {x y : Operand} {a b : List UInt8} (ho : ops[j]? = some ⟨some d, .binOp .add t x y yt, ty, pos, af, gd⟩)
    (hE : selEO (fun i => memB i anc) e0 its some = some eL) (hH : selHO (fun i => memB i anc) h0 its some = some hL)
    (hx : V.ev g eL x = some (.str a)) (hy : V.ev g eL y = some (.str b)) (hw : wants ops ⟨some d, .binOp .add t x y yt, ty, pos, af, gd⟩ eL = some true) (hl : a.length + b.length ≤ 9223372036854775807)
    (hs : snocO its ⟨j, d, .str (a ++ b), []⟩ some = some its') (h : DSeq P ops g e0 h0 r its' N B K) : DSeq P ops g e0 h0 ((j, anc) :: r) its N B K :=
  DSeq.put (n := []) ho hE hH hw (cat_ok hx hy hl) (fun i hi => by cases hi) (Nat.le_refl _) hs h
theorem Out.stillV {c : Ctx} {h h' : Asc} (D : Nat → Prop) (hh : HeapRep c h) (hc : CtxOk c) (hd : ∀ i av, get? h' i = some av → ¬ D i)
    (hs : ∀ id av, get? h' id = some av → ∃ u, get? h id = some u ∧ av.size = u.size ∧ (¬ c.G id → ObjAt { c with S := fun b => c.S b ∨ ∃ i av, get? h i = some av ∧ ¬ c.G i ∧ D i ∧ c.ρ i = b } (c.ρ id) av)) :
    Out c h h' [] { c with S := fun b => c.S b ∨ ∃ i av, get? h i = some av ∧ ¬ c.G i ∧ D i ∧ c.ρ i = b } := by
  have hle : Le c { c with S := fun b => c.S b ∨ ∃ i av, get? h i = some av ∧ ¬ c.G i ∧ D i ∧ c.ρ i = b } := ⟨fun _ h => h, fun _ _ => rfl, fun _ _ => Iff.rfl, fun i _ _ => Nat.le_refl _, fun b hb _ => ⟨.inl hb, fun h => h, rfl⟩⟩
  refine ⟨hle, rfl, fun _ h => .inl h, ⟨fun i av hi => ?_, fun i av hi hGi => ?_, fun i av hi hGi => ?_, fun i av hi hGi hS => ?_, fun i j p q hi hj => ?_⟩, ⟨fun b hb => ?_, hc.B⟩, rfl, rfl, rfl, Nat.le_refl _, fun b hb hn => rfl, fun i av hi hGi => ?_, fun b hb => ?_⟩
  · obtain ⟨u, hu, _⟩ := hs i av hi
    exact hh.A i u hu
  · obtain ⟨u, hu, _, h1⟩ := hs i av hi
    exact h1 hGi
  · obtain ⟨u, hu, h1, _⟩ := hs i av hi
    rw [h1]; exact hh.gh i u hu hGi
  · obtain ⟨u, hu, _⟩ := hs i av hi
    rcases hS with hS | ⟨j, aj, h1, h2, h3, h4⟩
    · exact hh.nS i u hu hGi hS
    · have := hh.inj i j _ _ hu h1 hGi h2 h4.symm
      exact hd i av hi (this ▸ h3)
  · obtain ⟨u, hu, _⟩ := hs i p hi
    obtain ⟨v, hv, _⟩ := hs j q hj
    exact hh.inj i j u v hu hv
  · rcases hb with hb | ⟨j, aj, h1, h2, h3, h4⟩
    · exact hc.S b hb
    · rw [← h4]; exact (hh.obj j aj h1 h2).lt
  · obtain ⟨u, hu, _⟩ := hs i av hi
    exact .inl ⟨i, u, hu, hGi, rfl⟩
  · rcases hb with hb | ⟨j, aj, h1, h2, h3, h4⟩
    · exact .inl hb
    · exact .inr (.inr ⟨j, aj, h1, h2, h4⟩)
def HeapV (H : Asc) (bor D : Nat → Prop) (σ : Nat → Nat) : Asc → Prop
  | [] => True
  | (t, v) :: r => (∃ u, get? H t = some u ∧ View H bor D σ v u ∧ NoFr v ∧ v.size = u.size) ∧ HeapV H bor D σ r
theorem HeapV.nil {H : Asc} {bor D : Nat → Prop} {σ : Nat → Nat} : HeapV H bor D σ [] := trivial
theorem HeapV.cons {H : Asc} {bor D : Nat → Prop} {σ : Nat → Nat} {r : Asc} {t : Nat} {v u : AV} (h : get? H t = some u) (h1 : View H bor D σ v u) (h2 : NoFr v) (h4 : v.size = u.size) (h3 : HeapV H bor D σ r) : HeapV H bor D σ ((t, v) :: r) := ⟨⟨u, h, h1, h2, h4⟩, h3⟩
theorem heapV_get {H : Asc} {bor D : Nat → Prop} {σ : Nat → Nat} : ∀ {e' : Asc}, HeapV H bor D σ e' → ∀ t v, get? e' t = some v → ∃ u, get? H t = some u ∧ View H bor D σ v u ∧ NoFr v ∧ v.size = u.size
  | [], _, t, v, h => by cases h
  | (k, w) :: r, h, t, v, hg => by
    rw [get?_cons] at hg
    by_cases e : k = t
    · rw [if_pos e] at hg; cases hg; subst e; exact h.1
    · rw [if_neg e] at hg; exact heapV_get h.2 t v hg
/-- The same, where the objects that are left may speak of them too. -/
theorem Sim.stillV {F : Fr} {e h g e' h' : Asc} {N : Nat} (ids : List Nat) (hd : (keys h').all (fun i => !memB i ids) = true) (hs : HeapV h (fun i => true = true ∧ memB i ids = true) (fun i => memB i (keys h') = true) (fun i => i) h') (he : EnvV h (fun i => true = true ∧ memB i ids = true) (fun i => memB i (keys h') = true) (fun i => i) e e') :
    ∀ a w, Sim F ⟨e, h, g, N⟩ a w → Sim F ⟨e', h', g, N⟩ a w := by
  rintro a w ⟨c, ns, rfl, hout, hen, hA, r⟩
  have hdis : ∀ i av, get? h' i = some av → ¬ (memB i ids = true) := fun i av hi hm => by
    have := List.all_eq_true.1 hd i (get?_keys hi)
    rw [hm] at this; cases this
  have hp : Pass true false c { c with S := fun b => c.S b ∨ ∃ i av, get? h i = some av ∧ ¬ c.G i ∧ memB i ids = true ∧ c.ρ i = b } (fun i => memB i (keys h') = true) (fun i => i) := ⟨rfl, fun i hi => by
      obtain ⟨av, hav⟩ := keys_get (memB_ok.1 hi)
      obtain ⟨u, hu, _⟩ := heapV_get hs i av hav
      exact hout.heap.A i u hu, fun _ _ => rfl, fun _ _ => Iff.rfl, fun b hb _ => .inl hb, fun e => by cases e⟩
  have hvr : ∀ {a u : AV}, View h (fun i => true = true ∧ memB i ids = true) (fun i => memB i (keys h') = true) (fun i => i) a u → ∀ {m : Md} {vs : List Value}, NoFr a → Rep c u m vs → Rep { c with S := fun b => c.S b ∨ ∃ i av, get? h i = some av ∧ ¬ c.G i ∧ memB i ids = true ∧ c.ρ i = b } a m vs :=
    by intro a u hv m vs hn hu; exact hv.rep hp hout.heap (fun id av hi hb hG => .inr ⟨id, av, hi, hG, hb.2, rfl⟩) hn hu
  have ho2 := Out.stillV (c := c) (h := h) (h' := h') (fun i => memB i ids = true) hout.heap hout.ok hdis (fun i av hi => by
    obtain ⟨u, hu, h1, h2, h3⟩ := heapV_get hs i av hi
    refine ⟨u, hu, h3, fun hG => ?_⟩
    obtain ⟨cs, t, xs, ys, q1, q2, q3⟩ := hout.heap.obj i u hu hG
    exact ⟨cs, t, xs, ys, q1, q2, hvr h1 h2 q3⟩)
  refine ⟨{ c with S := fun b => c.S b ∨ ∃ i av, get? h i = some av ∧ ¬ c.G i ∧ memB i ids = true ∧ c.ρ i = b }, _, rfl, hout.trans ho2, ⟨fun t v hv => ?_, (hen.le ho2.le).glob⟩, hA, r⟩
  obtain ⟨u, h1, h2, h3⟩ := envV_get he t v hv
  obtain ⟨q1, q2⟩ := hen.slot t u h1
  exact ⟨q1, hvr h2 h3 q2⟩
end Go.V
