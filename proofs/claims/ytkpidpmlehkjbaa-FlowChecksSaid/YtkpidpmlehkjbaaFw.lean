/- append to a slice of the call's own that does not begin where its memory begins: it is written behind the slice, or all is laid anew. -/
import Derived.Test.YtkpidpmlehkjbaaFq
set_option linter.unusedSimpArgs false
set_option linter.unusedVariables false
namespace Go.V
open Go.RowKit Go.L
section
variable {P : Program} {t : TypeId} {g e h : Asc} {x y : Operand} {d : Option Tmp} {ty : TypeId} {pos : String} {af : Array Edge} {gd : Option (Nat × Bool)}
theorem append_off {T : List (Option TI)} (hT : TabOk P T) {t2 eT : TypeId} (hk : (tget T t).map (·.kind) = some (.slice eT)) {tie txi : TI} (hte : tget T eT = some tie) (ht2 : tget T t2 = some txi) {src : AV} {ps : List Prop} {sz off n n' m N id : Nat} {f k : Nat → AV}
    (hx : ev g e x = some (.sl id [] tie.lay.size off n)) (hd : get? h id = some (.arr n' tie.lay.size f)) (hnn : n' = off + n) (hy : ev g e y = some src) (hs : evSrc h src = some (ps, sz, m, k)) (hp : AllP ps) (hsk : srcKind src txi.kind = true) (hsz : sz = tie.lay.size ∨ m = 0)
    (hm : 0 < m) (hs0 : 0 < tie.lay.size) (h63 : n + m ≤ 9223372036854775807) (hb : (n + m) * tie.bytes ≤ 140737488355328)
    {c : Ctx} {a : Act} (he : EnvRep c g e a) (hh : HeapRep c h) (hc : CtxOk c) (hN : ¬ c.A N) {K : Act → World → Prop} {Q : Exit → Act → World → Prop}
    (hK1 : ∀ c' v', Out c h ((N, .arr (off + n + m) tie.lay.size (joinF (off + n) f k)) :: del h id) [N] c' → Rep c' (.sl N [] tie.lay.size off (n + m)) .V [v'] → K (a.put d v') c'.w)
    (hK2 : ∀ c' v', Out c h ((N, .arr (n + m) tie.lay.size (joinF n (fun i => f (off + i)) k)) :: del h id) [N] c' → Rep c' (.sl N [] tie.lay.size 0 (n + m)) .V [v'] → K (a.put d v') c'.w) :
    Oper.wp P ⟨d, .call { callee := .builtin .append, args := #[x, y], argTypes := #[t, t2] }, ty, pos, af, gd⟩ a c.w K Q := by
  subst hnn
  cases htt : tget T t with
  | none => simp [htt] at hk
  | some ti =>
  simp only [htt, Option.map_some, Option.some.injEq] at hk
  have hti := (hT _ _ htt).und
  rw [hk] at hti
  simp only [TK.fits] at hti
  have hte' := hT _ _ hte
  have hsub : ∀ (av : AV) j u, get? ((N, av) :: del h id) j = some u → get? ((N, av) :: h) j = some u := fun av j u hj => by
    rw [get?_cons] at hj ⊢
    by_cases e : N = j
    · rw [if_pos e] at hj ⊢; exact hj
    · rw [if_neg e] at hj ⊢
      rw [get?_del] at hj
      split at hj
      · cases hj
      · exact hj
  obtain ⟨news, hsrc, hrep⟩ := src_ok (P := P) hh hs hp (ev_rep he hy) (hT _ _ ht2) hsk hsz
  obtain ⟨hA, ⟨hG, hz, ad, hv⟩ | ⟨hG, o, cap, hv, ho2, h3, h4, h5⟩⟩ := rep_sl (ev_rep he hx)
  · subst hz
    have hf0 : (Builtin.firstCells tie.lay.size 0 (.slice ad 0 0)).run P c.w.drew = .ok ([] : List Value).toArray c.w.drew := by cases ad <;> simp [Builtin.firstCells, loadCells, loadCellsFrom]
    obtain ⟨r, c', hr, ho, hrr⟩ := append_grow (P := P) (ty := ty) (N := N) (f := fun i => f (off + i)) hti hte' (base := ad) (n := 0) (cap := 0) (olds := []) hh hc hN hf0 ⟨by simp, fun i hi => by omega⟩ hsrc hrep (by omega) (by omega) hb
    exact wp_append rfl (by rw [hv]; exact hr) (hK2 _ _ (ho.shrink (hsub _)) hrr)
  · obtain ⟨cs, t0, xs, ys, hblk, rfl, hr0⟩ := (hh.obj id _ hd hG).cells rfl
    have hxl := hr0.1
    have hbs : bsize c.w (c.ρ id) = (xs ++ ys).length := by obtain ⟨fz, hblk⟩ := hblk.at; unfold bsize; rw [hblk]; simp
    have hmul : (off + n) * tie.lay.size = off * tie.lay.size + n * tie.lay.size := Nat.add_mul _ _ _
    by_cases hroom : n + m ≤ cap
    · have ho3 : o = off * tie.lay.size := by rcases ho2 with e | e; omega; simpa [pathOff] using e
      have hfit : o + n * tie.lay.size + m * tie.lay.size ≤ (xs ++ ys).length := by
        have := Nat.mul_le_mul_right tie.lay.size hroom
        rw [Nat.add_mul] at this
        omega
      have hnl := hsrc.newsLen
      have hst := run_storeBlk P (c.ρ id) (o + n * tie.lay.size) t0 news 0 (xs ++ ys) c.w hblk (by rw [hnl]; omega) hsrc.one
      simp only [Nat.add_zero] at hst
      have hat : o + n * tie.lay.size = (off + n) * tie.lay.size := by omega
      have hlen : (off + n) * tie.lay.size + news.length ≤ (xs ++ ys).length := by rw [hnl]; omega
      have hrun : (Builtin.append_ #[t, t2] ty #[.slice (some ⟨c.ρ id, o, none⟩) n cap, a.eval y]).run P c.w = .ok (.slice (some ⟨c.ρ id, o, none⟩) (n + m) cap) (c.w.setRow (c.ρ id) (ovr (xs ++ ys) ((off + n) * tie.lay.size) news).toArray) := by
        rw [hat] at hst
        rcases hsrc.kind with ⟨e', hk⟩ | hk <;> simp [Builtin.append_, run_underlying hti, run_underlying hk, hte'.run_size, hsrc.len, hroom, hsrc.cells, add_lit, hat, hst, ovr]
      have how : Out c h (put h id (.arr (off + n + m) tie.lay.size (joinF (off + n) f k))) [] { c with w := c.w.setRow (c.ρ id) (ovr (xs ++ ys) ((off + n) * tie.lay.size) news).toArray } := by
        refine Out.write hh hc hd hG rfl rfl rfl (setRow_size _ _ _) (bsize_row hblk (by rw [ovr_len hlen]; exact Nat.le_refl _)) (fun b hne => setRow_other _ _ _ _ hne) fun c' hc' hle => ?_
        subst hc'
        refine .inl ⟨_, t0, xs ++ news, ys.drop news.length, hblk.row _ (ovr_len hlen), ?_, (rep_join hr0 hrep).le hle⟩
        have := ovr_append_right xs ys news 0
        rw [Nat.add_zero, hxl] at this
        rw [this]
        simp [ovr]
      have hget : get? (put h id (.arr (off + n + m) tie.lay.size (joinF (off + n) f k))) id = some (.arr (off + n + m) tie.lay.size (joinF (off + n) f k)) := by rw [get?_put, if_pos rfl]
      have hor := (how.trans (Out.rename how.heap how.ok hget hN)).shrink (h'' := (N, .arr (off + n + m) tie.lay.size (joinF (off + n) f k)) :: del h id) fun j u hj => by
        rw [get?_cons, get?_del] at hj ⊢
        by_cases e : N = j
        · rw [if_pos e] at hj ⊢; exact hj
        · rw [if_neg e] at hj ⊢
          split at hj
          · cases hj
          · rename_i e2; rw [if_neg e2, get?_put, if_neg e2]; exact hj
      refine wp_append rfl (by rw [hv]; exact hrun) (hK1 _ _ hor ?_)
      refine ⟨.inr rfl, .inr ⟨fun hx => ?_, o, cap, ?_, ?_, hroom, h4, ?_⟩⟩
      · rcases hx with hx | hx
        · exact hx.1 rfl
        · exact hG hx.2
      · simp
      · rcases ho2 with e | e
        · exact .inl e
        · exact .inr e
      · show _ ≤ bsize (c.w.setRow _ _) (if N = N then c.ρ id else _)
        rw [if_pos rfl]
        exact Nat.le_trans h5 (bsize_row hblk (by rw [ovr_len hlen]; exact Nat.le_refl _))
    · have hxs : (xs.drop (off * tie.lay.size)).length = n * tie.lay.size := by rw [List.length_drop, hxl]; omega
      have hold : (Builtin.firstCells tie.lay.size n (.slice (some ⟨c.ρ id, o, none⟩) n cap)).run P c.w.drew = .ok (xs.drop (off * tie.lay.size)).toArray c.w.drew := by
        refine run_firstCells_some (P := P) c.w.drew tie.lay.size n ⟨c.ρ id, o, none⟩ n cap (xs.drop (off * tie.lay.size)) hxs (fun j u hj => ?_)
        rw [add_lit]
        have hj' : j < (xs.drop (off * tie.lay.size)).length := by
          rcases Nat.lt_or_ge j (xs.drop (off * tie.lay.size)).length with e | e
          · exact e
          · rw [List.getElem?_eq_none e] at hj; cases hj
        have hn0 : n ≠ 0 := fun e => by rw [hxs, e] at hj'; simp at hj'
        have ho3 : o = off * tie.lay.size := by rcases ho2 with e | e; omega; simpa [pathOff] using e
        rw [ho3]
        rw [List.getElem?_drop] at hj
        rw [List.length_drop] at hj'
        exact hblk.cell (by rw [List.getElem?_append_left (by omega)]; exact hj)
      have hr1 : Rep c (.arr n tie.lay.size (fun i => f (off + i))) .C (xs.drop (off * tie.lay.size)) := by
        refine ⟨hxs, fun i hi => ?_⟩
        have := hr0.2 (off + i) (by omega)
        unfold sub at this ⊢
        rw [List.drop_drop, ← Nat.add_mul]
        exact this
      obtain ⟨r, c', hr, ho, hrr⟩ := append_grow (P := P) (ty := ty) (N := N) (f := fun i => f (off + i)) (k := k) hti hte' (base := some ⟨c.ρ id, o, none⟩) (n := n) (cap := cap) (olds := xs.drop (off * tie.lay.size)) hh hc hN hold hr1 hsrc hrep (by omega) (by omega) hb
      exact wp_append rfl (by rw [hv]; exact hr) (hK2 _ _ (ho.shrink (hsub _)) hrr)
end
/-- A queue: what was taken off is D, what is left is L; x is put behind it. -/
theorem Seq.appL {F : Fr} {ops : Array Oper} {l : List Oper} {e h hr g : Asc} {N : Nat} {K : St → Prop} {d : Tmp} {ty : TypeId} {pos : String} {af : Array Edge} {gd : Option (Nat × Bool)} {X : Type} {G : X → AV} {z0 : X} (D L : List X) (u : X)
    {T : List (Option TI)} (hT : TabOk F.P T) {t t2 eT : TypeId} (hk : (tget T t).map (·.kind) = some (.slice eT)) {tie txi : TI} (hte : tget T eT = some tie) (ht2 : tget T t2 = some txi) {x y : Operand} {src : AV} {ps : List Prop} {sz off n n' id s : Nat} {k : Nat → AV} (hs1 : s = tie.lay.size)
    (hx : V.ev g e x = some (.sl id [] s off n)) (hd : get? h id = some (.arr n' s (fun i => G ((D ++ L).getD i z0)))) (hnD : off = D.length) (hnL : n = L.length) (hnn : n' = (D ++ L).length) (hy : V.ev g e y = some src) (hs : evSrc h src = some (ps, sz, 1, k)) (hku : k 0 = G u) (hp : AllP ps) (hsk : srcKind src txi.kind = true) (hsz : sz = s)
    (hs0 : 0 < s) (h63 : n + 1 ≤ 9223372036854775807) (hb : (n + 1) * tie.bytes ≤ 140737488355328) (hw : wants ops ⟨some d, .call { callee := .builtin .append, args := #[x, y], argTypes := #[t, t2] }, ty, pos, af, gd⟩ e = some true) (hd2 : Nat.blt d F.n = true) (hdel : dropO h [id] some = some hr)
    (hkk : ∀ D' : List X, Seq F ops l ⟨(d, .sl N [] s D'.length (L.length + 1)) :: e, (N, .arr (D' ++ (L ++ [u])).length s (fun i => G ((D' ++ (L ++ [u])).getD i z0))) :: hr, g, N + 1⟩ K) :
    Seq F ops (⟨some d, .call { callee := .builtin .append, args := #[x, y], argTypes := #[t, t2] }, ty, pos, af, gd⟩ :: l) ⟨e, h, g, N⟩ K := by
  subst hs1
  subst hnD
  subst hnL
  refine Seq.to (fun s' => ∃ D' : List X, s' = ⟨(d, .sl N [] tie.lay.size D'.length (L.length + 1)) :: e, (N, .arr (D' ++ (L ++ [u])).length tie.lay.size (fun i => G ((D' ++ (L ++ [u])).getD i z0))) :: hr, g, N + 1⟩) hw ?_ (fun s' ⟨D', e⟩ => by rw [e]; exact hkk D')
  rw [dropO_eq] at hdel
  cases hdel
  rintro a w ⟨c, ms, rfl, hout, he, hbn, hszt, hdf, hN0, hgl⟩ K' Q' hK'
  have hNA : ¬ c.A N := fun hA => by have := hbn N hA; exact Nat.lt_irrefl _ this
  have fin : ∀ (D' : List X) (f' : Nat → AV) (m' : Nat), m' = (D' ++ (L ++ [u])).length → (∀ i, i < m' → f' i = G ((D' ++ (L ++ [u])).getD i z0)) → ∀ c' v', Out c h ((N, .arr m' tie.lay.size f') :: del h id) [N] c' → Rep c' (.sl N [] tie.lay.size D'.length (L.length + 1)) .V [v'] → K' (a.put (some d) v') c'.w := fun D' f' m' hm' hf' c' v' ho hr => by
    refine hK' _ _ _ ⟨D', rfl⟩ ⟨c', ms ++ [N], rfl, hout.trans ?_, ?_, fun i hi => ?_, by rw [put_size]; exact hszt, by rw [put_defers]; exact hdf, hN0, hgl⟩
    · have hcell : ∀ xs, Rep c' (.arr m' tie.lay.size f') .C xs → Rep c' (.arr (D' ++ (L ++ [u])).length tie.lay.size (fun i => G ((D' ++ (L ++ [u])).getD i z0))) .C xs := fun xs ⟨h1, h2⟩ => by
        subst hm'
        exact ⟨h1, fun i hi => by show Rep c' (G _) .C _; rw [← hf' i hi]; exact h2 i hi⟩
      have hg : ∀ i av, get? ((N, .arr (D' ++ (L ++ [u])).length tie.lay.size (fun i => G ((D' ++ (L ++ [u])).getD i z0))) :: dropL h [id]) i = some av → (i = N ∧ av = .arr (D' ++ (L ++ [u])).length tie.lay.size (fun i => G ((D' ++ (L ++ [u])).getD i z0)) ∧ get? ((N, .arr m' tie.lay.size f') :: del h id) i = some (.arr m' tie.lay.size f')) ∨ (i ≠ N ∧ get? ((N, .arr m' tie.lay.size f') :: del h id) i = some av) := fun i av hi => by
        rw [get?_cons] at hi
        by_cases e1 : N = i
        · rw [if_pos e1] at hi; cases hi; exact .inl ⟨e1.symm, rfl, by rw [get?_cons, if_pos e1]⟩
        · rw [if_neg e1] at hi
          refine .inr ⟨fun e => e1 e.symm, ?_⟩
          rw [get?_cons, if_neg e1, get?_del]
          rw [get?_drop] at hi
          by_cases e2 : id = i
          · subst e2; simp [memB] at hi
          · rw [if_neg e2]
            split at hi
            · cases hi
            · exact hi
      refine ⟨ho.le, ho.B, ho.A, ⟨fun i av hi => ?_, fun i av hi hG => ?_, fun i av hi hG => ?_, fun i av hi hG => ?_, fun i j av bv hi hj hGi hGj hρ => ?_⟩, ho.ok, ho.os, ho.tape, ho.output, ho.size, ho.frame, fun i av hi hG => ?_, ho.newS⟩
      · rcases hg i av hi with ⟨_, _, h2⟩ | ⟨_, h2⟩ <;> exact ho.heap.A i _ h2
      · rcases hg i av hi with ⟨_, rfl, h2⟩ | ⟨_, h2⟩
        · exact (ho.heap.obj i _ h2 hG).to rfl hcell (fun n k v e => by cases e) (fun b o e => by cases e)
        · exact ho.heap.obj i _ h2 hG
      · rcases hg i av hi with ⟨_, rfl, h2⟩ | ⟨_, h2⟩
        · have := ho.heap.gh i _ h2 hG
          subst hm'
          exact this
        · exact ho.heap.gh i _ h2 hG
      · rcases hg i av hi with ⟨_, _, h2⟩ | ⟨_, h2⟩ <;> exact ho.heap.nS i _ h2 hG
      · rcases hg i av hi with ⟨_, _, h2⟩ | ⟨_, h2⟩ <;> rcases hg j bv hj with ⟨_, _, h3⟩ | ⟨_, h3⟩ <;> exact ho.heap.inj i j _ _ h2 h3 hGi hGj hρ
      · rcases hg i av hi with ⟨_, _, h2⟩ | ⟨_, h2⟩ <;> exact ho.own i _ h2 hG
    · exact (he.le ho.le).cons hr (by rw [hszt]; simpa [Nat.blt_eq] using hd2)
    · show i < N + 1
      rcases ho.A i hi with h1 | h1
      · have := hbn i h1
        have : i < N := this
        omega
      · have : i = N := by simpa using h1
        omega
  have hln : n' = D.length + L.length := by rw [hnn, List.length_append]
  refine append_off hT hk hte ht2 hx hd hln hy hs hp hsk (.inl hsz) (by omega) hs0 h63 hb he hout.heap hout.ok hNA (fun c' v' ho hr => fin D _ _ (by simp; omega) (fun i hi => ?_) c' v' ho hr) (fun c' v' ho hr => fin [] _ _ (by simp) (fun i hi => ?_) c' v' ho hr)
  · by_cases h1 : i < D.length + L.length
    · rw [joinF_lt h1, ← List.append_assoc]
      show G _ = G _
      congr 1
      rw [List.getD_eq_getElem?_getD, List.getD_eq_getElem?_getD, List.getElem?_append_left (l₁ := D ++ L) (by rw [List.length_append]; omega)]
    · rw [joinF_ge (by omega), show i - (D.length + L.length) = 0 by omega, hku, ← List.append_assoc]
      congr 1
      rw [List.getD_eq_getElem?_getD, List.getElem?_append_right (by simp; omega), show i - (D ++ L).length = 0 by simp; omega]; rfl
  · by_cases h1 : i < L.length
    · rw [joinF_lt h1]
      show G _ = G _
      congr 1
      rw [List.nil_append, List.getD_eq_getElem?_getD, List.getD_eq_getElem?_getD, List.getElem?_append_left h1, List.getElem?_append_right (by omega), show D.length + i - D.length = i by omega]
    · rw [joinF_ge (by omega), show i - L.length = 0 by omega, hku, List.nil_append]
      congr 1
      rw [List.getD_eq_getElem?_getD, List.getElem?_append_right (by omega), show i - L.length = 0 by omega]; rfl
end Go.V
