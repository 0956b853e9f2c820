/- Ranges over maps: the entries come in whatever order. -/
import Derived.Test.YtkpidpmlehkjbaaFs
import Derived.Maps.RangeRun
set_option linter.unusedSimpArgs false
set_option linter.unusedVariables false
namespace Go.V
open Go.RowKit Go.L
/-- What a map's entries are. -/
structure MapEs {κ ν : Type} (kv : κ → Value) (d0 : κ × ν) (l : List (κ × ν)) (es : Array MapEntry) (clock : Nat) : Prop where
  size : es.size = l.length
  key : ∀ i (h : i < es.size), es[i].key = kv (l.getD i d0).1
  born : ∀ i (h : i < es.size), es[i].born < clock
  inj : ∀ i j (hi : i < es.size) (hj : j < es.size), es[i].born = es[j].born → i = j
def bornOf (es : Array MapEntry) (i : Nat) : Nat := match es[i]? with
  | some e => e.born
  | none => 0
def valOf (es : Array MapEntry) (i : Nat) : Value := match es[i]? with
  | some e => e.val
  | none => undef
/-- The record of a range over a map: which entries came. -/
def itO (bm : Nat) (es : Array MapEntry) (clock : Nat) (done : List Nat) : Obj := .mapIter (some bm) clock (done.map (bornOf es)).toArray clock
section
variable {κ ν : Type} {K : κ → AV} {VA : ν → AV} {kv : κ → Value} {d0 : κ × ν} {l : List (κ × ν)}
theorem bornOf_get {es : Array MapEntry} {i : Nat} (h : i < es.size) : bornOf es i = es[i].born := by unfold bornOf; rw [Array.getElem?_eq_getElem h]
theorem valOf_get {es : Array MapEntry} {i : Nat} (h : i < es.size) : valOf es i = es[i].val := by unfold valOf; rw [Array.getElem?_eq_getElem h]
/-- range m. -/
theorem Seq.rangeM [DecidableEq κ] {F : Fr} {ops : Array Oper} {lo : List Oper} {e h g : Asc} {N : Nat} {Q : St → Prop} {d : Tmp} {ty : TypeId} {pos : String} {af : Array Edge} {gd : Option (Nat × Bool)} {t kt et : TypeId} {x : Operand} {id : Nat}
    (hu : F.P.underlying t = some (.map kt et)) (hK : KeyK F.P kt K kv) (hx : Go.V.ev g e x = some (.mp id)) (ho : get? h id = some (moL K VA d0 l)) (hw : wants ops ⟨some d, .range t x, ty, pos, af, gd⟩ e = some true) (hd2 : Nat.blt d F.n = true)
    (hk : ∀ (bm r : Nat) (es : Array MapEntry) (clock : Nat), MapEs kv d0 l es clock → Seq F ops lo ⟨(d, .ptr N []) :: e, (N, .ob r (itO bm es clock [])) :: putL h id (.ob bm (.map es clock)), g, N + 1⟩ Q) :
    Seq F ops (⟨some d, .range t x, ty, pos, af, gd⟩ :: lo) ⟨e, h, g, N⟩ Q := by
  refine Seq.to (fun s' => ∃ (bm r : Nat) (es : Array MapEntry) (clock : Nat), MapEs kv d0 l es clock ∧ s' = ⟨(d, .ptr N []) :: e, (N, .ob r (itO bm es clock [])) :: putL h id (.ob bm (.map es clock)), g, N + 1⟩) hw ?_ (fun s' ⟨bm, r, es, clock, hm, e⟩ => by rw [e]; exact hk bm r es clock hm)
  rintro a w ⟨c, ms, rfl, hout, he, hbn, hsz, hdf, hN0, hgl⟩ K' Q' hK'
  have hN : ¬ c.A N := fun hA => by have h1 : N < N := hbn N hA; omega
  obtain ⟨_, hG, hv⟩ := rep_mp (ev_rep he hx)
  rcases hout.heap.obj id _ ho hG with ⟨cs, t, xs, ys, _, _, hr⟩ | ⟨n', ks', vs', e', es, clock, hbk, hnn, hes, hb1, hb2⟩ | ⟨_, e', _⟩
  · exact hr.elim
  rotate_left 1
  · cases e'
  simp only [moL, AV.mo.injEq] at e'
  obtain ⟨rfl, rfl, rfl⟩ := e'
  have hm : MapEs kv d0 l es clock := ⟨hnn, fun i hi => (hK.rep c _ _).1 (hes i hi).1, hb1, hb2⟩
  -- the map as it is
  have o1 : Out c h (putL h id (.ob (c.ρ id) (.map es clock))) [] c := by
    have hg : ∀ i av, get? (putL h id (.ob (c.ρ id) (.map es clock))) i = some av → (i = id ∧ av = .ob (c.ρ id) (.map es clock)) ∨ (i ≠ id ∧ get? h i = some av) := fun i av hi => by
      rw [get?_putL] at hi
      by_cases e : id = i
      · rw [if_pos e] at hi; cases hi; exact .inl ⟨e.symm, rfl⟩
      · rw [if_neg e] at hi; exact .inr ⟨fun e' => e e'.symm, hi⟩
    have hget : ∀ i av, get? (putL h id (.ob (c.ρ id) (.map es clock))) i = some av → ∃ av', get? h i = some av' := fun i av hi => by
      rcases hg i av hi with ⟨rfl, _⟩ | ⟨_, h2⟩
      · exact ⟨_, ho⟩
      · exact ⟨_, h2⟩
    refine ⟨Le.refl c, rfl, fun i h => .inl h, ⟨fun i av hi => ?_, fun i av hi hgi => ?_, fun i av hi hgi => ?_, fun i av hi hgi => ?_, fun i j av bv hi hj hgi hgj e => ?_⟩, hout.ok, rfl, rfl, rfl, Nat.le_refl _, fun _ _ _ => rfl, fun i av hi hgi => ?_, fun _ h => .inl h⟩
    · obtain ⟨_, h2⟩ := hget i av hi; exact hout.heap.A i _ h2
    · rcases hg i av hi with ⟨rfl, rfl⟩ | ⟨_, h2⟩
      · exact .inr (.inr ⟨_, rfl, hbk⟩)
      · exact hout.heap.obj i _ h2 hgi
    · rcases hg i av hi with ⟨rfl, rfl⟩ | ⟨_, h2⟩
      · exact absurd hgi hG
      · exact hout.heap.gh i _ h2 hgi
    · obtain ⟨_, h2⟩ := hget i av hi; exact hout.heap.nS i _ h2 hgi
    · obtain ⟨_, h2⟩ := hget i av hi
      obtain ⟨_, h3⟩ := hget j bv hj
      exact hout.heap.inj i j _ _ h2 h3 hgi hgj e
    · obtain ⟨_, h2⟩ := hget i av hi
      exact .inl ⟨i, _, h2, hgi, rfl⟩
  have o2 := Out.newOb (o := itO (c.ρ id) es clock []) o1.heap o1.ok hN
  have o3 := o1.trans o2
  unfold Oper.wp
  have hrun := run_range_map (P := F.P) c.w t kt et (c.ρ id) es clock hu hbk
  simp only [execOp, hv, Sem.run_bind, hrun, Result.andThen_ok, Sem.run_pure]
  refine hK' _ (a.put (some d) (.pointer (some ⟨c.w.heap.size, 0, none⟩))) _ ⟨c.ρ id, c.w.heap.size, es, clock, hm, rfl⟩ ⟨_, ms ++ ([] ++ [N]), rfl, hout.trans o3, ?_, fun i hi => ?_, by rw [put_size]; exact hsz, by rw [put_defers]; exact hdf, hN0, hgl⟩
  · refine (he.le o3.le).cons ?_ (by rw [hsz]; simpa [Nat.blt_eq] using hd2)
    refine ⟨.inr rfl, fun hx => hx.2 rfl, ?_⟩
    show _ = [Value.pointer (some ⟨if N = N then _ else _, 0, none⟩)]
    rw [if_pos rfl]
  · show i < N + 1
    rcases hi with hi | hi
    · have h1 : i < N := hbn i hi
      omega
    · omega
theorem mem_left {es : Array MapEntry} {seen : Array Nat} {ent : MapEntry} : ent ∈ (leftOf es seen).toList ↔ ent ∈ es.toList ∧ ent.born ∉ seen := by
  unfold leftOf
  simp [Array.mem_filter]
/-- next: no entry is left, or one of those that are. -/
theorem Seq.nextM {F : Fr} {ops : Array Oper} {lo : List Oper} {e h g : Asc} {N : Nat} {Q : St → Prop} {d : Tmp} {ty : TypeId} {pos : String} {af : Array Edge} {gd : Option (Nat × Bool)} {x : Operand} {it id bm r clock : Nat} {es : Array MapEntry} {done : List Nat}
    (hm : MapEs kv d0 l es clock) (hrep : ∀ c k v, Rep c (K k) .V [v] ↔ v = kv k) (hx : Go.V.ev g e x = some (.ptr it [])) (hi : get? h it = some (.ob r (itO bm es clock done))) (ho : get? h id = some (.ob bm (.map es clock))) (hdl : ∀ i ∈ done, i < l.length) (hw : wants ops ⟨some d, .next x false, ty, pos, af, gd⟩ e = some true) (hd2 : Nat.blt d F.n = true)
    (h1 : (∀ i, i < l.length → i ∈ done) → Seq F ops lo ⟨(d, .tup (.pair (.bool false) .nul)) :: e, h, g, N⟩ Q)
    (h2 : ∀ i, i < l.length → i ∉ done → Seq F ops lo ⟨(d, .tup (.pair (.bool true) (.pair (K (l.getD i d0).1) (.pair (.val (valOf es i)) .nul)))) :: e, putL h it (.ob r (itO bm es clock (done ++ [i]))), g, N⟩ Q) :
    Seq F ops (⟨some d, .next x false, ty, pos, af, gd⟩ :: lo) ⟨e, h, g, N⟩ Q := by
  refine Seq.to (fun s' => ((∀ i, i < l.length → i ∈ done) ∧ s' = ⟨(d, .tup (.pair (.bool false) .nul)) :: e, h, g, N⟩) ∨ ∃ i, i < l.length ∧ i ∉ done ∧ s' = ⟨(d, .tup (.pair (.bool true) (.pair (K (l.getD i d0).1) (.pair (.val (valOf es i)) .nul)))) :: e, putL h it (.ob r (itO bm es clock (done ++ [i]))), g, N⟩) hw ?_ (fun s' hs => by
    rcases hs with ⟨q, rfl⟩ | ⟨i, q1, q2, rfl⟩
    · exact h1 q
    · exact h2 i q1 q2)
  rintro a w ⟨c, ms, rfl, hout, he, hbn, hsz, hdf, hN0, hgl⟩ K' Q' hK'
  obtain ⟨hGi, hri, hbi⟩ := ob_at hout.heap hi
  obtain ⟨hGo, hro, hbo⟩ := ob_at hout.heap ho
  have hv := (rep_ptr (ev_rep he hx)).2.2
  rw [hri] at hv
  have hd3 : d < a.tmps.size := by rw [hsz]; simpa [Nat.blt_eq] using hd2
  have hcont : ∀ i (hlt : i < es.size), es[i].born ∈ (done.map (bornOf es)).toArray ↔ i ∈ done := fun i hlt => by
    rw [List.mem_toArray, List.mem_map]
    constructor
    · rintro ⟨j, hj, hb⟩
      have hjl : j < es.size := by rw [hm.size]; exact hdl j hj
      rw [bornOf_get hjl] at hb
      have := hm.inj j i hjl hlt hb
      rwa [← this]
    · intro hj
      exact ⟨i, hj, bornOf_get hlt⟩
  rcases run_next_at (P := F.P) c.w ty r bm clock clock (done.map (bornOf es)).toArray es clock hbi hbo (fun x hx => by
      obtain ⟨i, hi, rfl⟩ := List.getElem_of_mem hx
      exact hm.born i (by simpa using hi)) (Nat.le_refl _) with ⟨hz, hrun⟩ | ⟨ent, hent, w1, hw1, hrun⟩
  · unfold Oper.wp
    simp only [execOp, hv, pathOff, Sem.run_bind, hrun, Result.andThen_ok, Sem.run_pure]
    refine hK' _ (a.put (some d) (.tuple #[.bool false])) _ (.inl ⟨fun i hlt => ?_, rfl⟩) ⟨c, ms, rfl, hout, he.cons ⟨[.bool false], rfl, _, [], rfl, rfl, rfl⟩ hd3, hbn, by rw [put_size]; exact hsz, by rw [put_defers]; exact hdf, hN0, hgl⟩
    have hlt' : i < es.size := by rw [hm.size]; exact hlt
    refine Classical.byContradiction fun hc => ?_
    have : es[i] ∈ (leftOf es (done.map (bornOf es)).toArray).toList := mem_left.2 ⟨by simp, fun h => hc ((hcont i hlt').1 h)⟩
    have e0 : leftOf es (done.map (bornOf es)).toArray = #[] := Array.eq_empty_of_size_eq_zero hz
    rw [e0] at this
    cases this
  · obtain ⟨q1, q2⟩ := mem_left.1 hent
    obtain ⟨i, hlt, rfl⟩ := List.getElem_of_mem q1
    have hlt' : i < es.size := by simpa using hlt
    have hel : es.toList[i] = es[i] := by simp
    rw [hel] at q2 hrun
    have hil : i < l.length := by rw [← hm.size]; exact hlt'
    have hnd : i ∉ done := fun h => q2 ((hcont i hlt').2 h)
    have hO : ((done.map (bornOf es)).toArray.push es[i].born) = ((done ++ [i]).map (bornOf es)).toArray := by
      rw [List.map_append, List.map_singleton, bornOf_get hlt']; simp
    have o1 : Out c h h [] { c with w := w1 } := by
      rcases hw1 with rfl | rfl
      · exact Out.refl hout.heap hout.ok
      · exact Out.drew hout.heap hout.ok
    have o2 := Out.obPut (o' := itO bm es clock (done ++ [i])) o1.heap o1.ok hi rfl
    have o3 := o1.trans o2
    unfold Oper.wp
    simp only [execOp, hv, pathOff, Sem.run_bind, hrun, Result.andThen_ok, Sem.run_pure]
    rw [hO]
    refine hK' _ (a.put (some d) (.tuple #[.bool true, es[i].key, es[i].val])) _ (.inr ⟨i, hil, hnd, rfl⟩) ⟨_, ms ++ ([] ++ []), rfl, hout.trans o3, (he.le o3.le).cons ?_ hd3, hbn, by rw [put_size]; exact hsz, by rw [put_defers]; exact hdf, hN0, hgl⟩
    refine ⟨[.bool true, es[i].key, es[i].val], rfl, _, _, rfl, rfl, _, _, rfl, (hrep _ _ _).2 (hm.key i hlt'), _, [], rfl, ?_, rfl⟩
    rw [valOf_get hlt']
    exact ⟨rfl, trivial⟩
/-- The key and the value of the entry that came last. -/
theorem entryM_ok {P : Program} {g e h : Asc} {x : Operand} {d : Option Tmp} {ty : TypeId} {pos : String} {af : Array Edge} {gd : Option (Nat × Bool)} {it id bm r clock : Nat} {es : Array MapEntry} {done : List Nat} {i : Nat}
    (hm : MapEs kv d0 l es clock) (hrep : ∀ c k v, Rep c (K k) .V [v] ↔ v = kv k) (hx : Go.V.ev g e x = some (.ptr it [])) (hi : get? h it = some (.ob r (itO bm es clock (done ++ [i])))) (ho : get? h id = some (.ob bm (.map es clock))) (hil : i < l.length) :
    OpOk P ⟨d, .entry x, ty, pos, af, gd⟩ g e h (some (.tup (.pair (K (l.getD i d0).1) (.pair (.val (valOf es i)) .nul)))) h [] := by
  refine OpOk.val fun c a he hh hc => ?_
  obtain ⟨hGi, hri, hbi⟩ := ob_at hh hi
  obtain ⟨hGo, hro, hbo⟩ := ob_at hh ho
  have hv := (rep_ptr (ev_rep he hx)).2.2
  rw [hri] at hv
  have hlt' : i < es.size := by rw [hm.size]; exact hil
  have hO : ((done.map (bornOf es)).toArray.push es[i].born) = ((done ++ [i]).map (bornOf es)).toArray := by
    rw [List.map_append, List.map_singleton, bornOf_get hlt']; simp
  have hbi : c.w.heap[r]? = some (.mapIter (some bm) clock ((done.map (bornOf es)).toArray.push es[i].born) clock) := by rw [hO]; exact hbi
  have hrun := run_entry_at (P := P) c.w r bm clock (done.map (bornOf es)).toArray es clock es[i] hbi hbo (by simp) (by
    rw [List.nodup_iff_pairwise_ne, List.pairwise_iff_getElem]
    intro p q hp hq hpq e
    simp only [List.length_map, Array.length_toList] at hp hq
    simp only [List.getElem_map, Array.getElem_toList] at e
    have := hm.inj p q hp hq e
    omega)
  refine ⟨.tuple #[es[i].key, es[i].val], ?_, [es[i].key, es[i].val], rfl, _, _, rfl, (hrep _ _ _).2 (hm.key i hlt'), _, [], rfl, ?_, rfl⟩
  · simp only [execOp, hv, pathOff, Sem.run_bind, hrun, Result.andThen_ok, Sem.run_pure]
  · rw [valOf_get hlt']
    exact ⟨rfl, trivial⟩
end
end Go.V
