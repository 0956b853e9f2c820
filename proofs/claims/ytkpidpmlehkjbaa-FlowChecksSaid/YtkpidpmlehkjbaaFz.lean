/- append to the beginning of a slice of the call's own: what is appended may lie in the same memory, behind it (Go reads it all before it writes). -/
import Derived.Test.YtkpidpmlehkjbaaFq
set_option linter.unusedSimpArgs false
set_option linter.unusedVariables false
namespace Go.V
open Go.RowKit Go.L
section
variable {P : Program} {t : TypeId} {g e h : Asc} {x y : Operand} {d : Option Tmp} {ty : TypeId} {pos : String} {af : Array Edge} {gd : Option (Nat × Bool)}
theorem append_over_ok {T : List (Option TI)} (hT : TabOk P T) {t2 eT : TypeId} (hk : (tget T t).map (·.kind) = some (.slice eT)) {tie txi : TI} (hte : tget T eT = some tie) (ht2 : tget T t2 = some txi) {src : AV} {ps : List Prop} {sz n n' m N id : Nat} {f k : Nat → AV}
    (hx : ev g e x = some (.sl id [] tie.lay.size 0 n)) (hd : get? h id = some (.arr n' tie.lay.size f)) (hnn : n ≤ n') (hy : ev g e y = some src) (hs : evSrc h src = some (ps, sz, m, k)) (hp : AllP ps) (hsk : srcKind src txi.kind = true) (hsz : sz = tie.lay.size ∨ m = 0)
    (h63 : n + m ≤ 9223372036854775807) (hb : (n + m) * tie.bytes ≤ 140737488355328) :
    OpOk P ⟨d, .call { callee := .builtin .append, args := #[x, y], argTypes := #[t, t2] }, ty, pos, af, gd⟩ g e h (some (.sl N [] tie.lay.size 0 (n + m))) ((N, .arr (n + m) tie.lay.size (joinF n f k)) :: del h id) [N] := by
  intro c a he hh hc hn K Q hK
  have hN : ¬ c.A N := hn N (by simp)
  cases htt : tget T t with
  | none => simp [htt] at hk
  | some ti =>
  simp only [htt, Option.map_some, Option.some.injEq] at hk
  have hti := (hT _ _ htt).und
  rw [hk] at hti
  simp only [TK.fits] at hti
  have hte' := hT _ _ hte
  have hsub : ∀ (av : AV) j u, get? ((N, av) :: del h id) j = some u → get? ((N, av) :: h) j = some u := fun av j u hj => by
    rw [get?_cons] at hj ⊢
    by_cases e : N = j
    · rw [if_pos e] at hj ⊢; exact hj
    · rw [if_neg e] at hj ⊢
      rw [get?_del] at hj
      split at hj
      · cases hj
      · exact hj
  obtain ⟨news, hsrc, hrep⟩ := src_ok (P := P) hh hs hp (ev_rep he hy) (hT _ _ ht2) hsk hsz
  obtain ⟨hA, ⟨hG, hz, ad, hv⟩ | ⟨hG, o, cap, hv, ho2, h3, h4, h5⟩⟩ := rep_sl (ev_rep he hx)
  · subst hz
    have hf0 : (Builtin.firstCells tie.lay.size 0 (.slice ad 0 0)).run P c.w.drew = .ok ([] : List Value).toArray c.w.drew := by cases ad <;> simp [Builtin.firstCells, loadCells, loadCellsFrom]
    by_cases hm : m = 0
    · subst hm
      have hnews : news = [] := List.length_eq_zero_iff.1 (by simpa using hsrc.newsLen)
      subst hnews
      have hr : (Builtin.append_ #[t, t2] ty #[.slice ad 0 0, a.eval y]).run P c.w = .ok (.slice ad 0 0) c.w := by
        cases ad <;> rcases hsrc.kind with ⟨e', hk⟩ | hk <;> simp [Builtin.append_, run_underlying hti, run_underlying hk, hte'.run_size, hsrc.len, hsrc.cells, storeCells]
      have ho := (Out.ghost (N := N) (av := .arr (0 + 0) tie.lay.size (joinF 0 f k)) hh hc hN (by simp [AV.size])).shrink (hsub _)
      exact wp_append rfl (by rw [hv]; exact hr) (hK _ _ ho fun y hy => by cases hy; exact ⟨.inr rfl, .inl ⟨.inr rfl, rfl, ad, rfl⟩⟩)
    · obtain ⟨r, c', hr, ho, hrr⟩ := append_grow (P := P) (ty := ty) (N := N) (f := f) hti hte' (base := ad) (n := 0) (cap := 0) (olds := []) hh hc hN hf0 ⟨by simp, fun i hi => by omega⟩ hsrc hrep (by omega) (by omega) hb
      exact wp_append rfl (by rw [hv]; exact hr) (hK _ _ (ho.shrink (hsub _)) fun y hy => by cases hy; exact hrr)
  · obtain ⟨cs, t0, xs, ys, hblk, rfl, hr0⟩ := ((hh.obj id _ hd hG).cut hnn).cells rfl
    have hxl := hr0.1
    have hbs : bsize c.w (c.ρ id) = (xs ++ ys).length := by obtain ⟨fz, hblk⟩ := hblk.at; unfold bsize; rw [hblk]; simp
    by_cases hroom : n + m ≤ cap
    · have hfit : cap ≠ 0 → n * tie.lay.size + m * tie.lay.size ≤ (xs ++ ys).length ∧ o = 0 := fun h0 => by
        have e : o = 0 := by rcases ho2 with e | e; exact absurd e h0; simpa [pathOff] using e
        have := Nat.mul_le_mul_right tie.lay.size hroom
        rw [Nat.add_mul] at this
        exact ⟨by omega, e⟩
      have hnl := hsrc.newsLen
      have hrun : ∃ w', (Builtin.append_ #[t, t2] ty #[.slice (some ⟨c.ρ id, o, none⟩) n cap, a.eval y]).run P c.w = .ok (.slice (some ⟨c.ρ id, o, none⟩) (n + m) cap) w' ∧ w' = c.w.setRow (c.ρ id) (ovr (xs ++ ys) (n * tie.lay.size) news).toArray := by
        by_cases h0 : cap = 0
        · have hm : m = 0 := by omega
          have hn' : n = 0 := by omega
          subst hm hn'
          have hnews : news = [] := List.length_eq_zero_iff.1 (by simpa using hnl)
          subst hnews
          refine ⟨c.w, ?_, ?_⟩
          · rcases hsrc.kind with ⟨e', hk⟩ | hk <;> simp [Builtin.append_, run_underlying hti, run_underlying hk, hte'.run_size, hsrc.len, hsrc.cells, storeCells]
          · rw [Nat.zero_mul]
            have : ovr (xs ++ ys) 0 [] = xs ++ ys := by simp [ovr]
            rw [this]
            exact hblk.self.symm
        · obtain ⟨hf1, rfl⟩ := hfit h0
          have hst := run_storeBlk P (c.ρ id) (n * tie.lay.size) t0 news 0 (xs ++ ys) c.w hblk (by simp at hf1 ⊢; omega) hsrc.one
          simp only [Nat.add_zero] at hst
          refine ⟨_, ?_, rfl⟩
          rcases hsrc.kind with ⟨e', hk⟩ | hk <;> simp [Builtin.append_, run_underlying hti, run_underlying hk, hte'.run_size, hsrc.len, hroom, hsrc.cells, add_lit, hst, ovr]
      obtain ⟨w', hrun, hw'⟩ := hrun
      have hlen : n * tie.lay.size + news.length ≤ (xs ++ ys).length := by
        by_cases h0 : cap = 0
        · have hm : m = 0 := by omega
          have hn' : n = 0 := by omega
          subst hm hn'; rw [hnl]; simp
        · rw [hnl]; exact (hfit h0).1
      have how : Out c h (put h id (.arr (n + m) tie.lay.size (joinF n f k))) [] { c with w := w' } := by
        subst hw'
        refine Out.write hh hc hd hG rfl rfl rfl (setRow_size _ _ _) (bsize_row hblk (by rw [ovr_len hlen]; exact Nat.le_refl _)) (fun b hne => setRow_other _ _ _ _ hne) fun c' hc' hle => ?_
        subst hc'
        refine .inl ⟨_, t0, xs ++ news, ys.drop news.length, hblk.row _ (ovr_len hlen), ?_, (rep_join hr0 hrep).le hle⟩
        have := ovr_append_right xs ys news 0
        rw [Nat.add_zero, hxl] at this
        rw [this]
        simp [ovr]
      have hget : get? (put h id (.arr (n + m) tie.lay.size (joinF n f k))) id = some (.arr (n + m) tie.lay.size (joinF n f k)) := by rw [get?_put, if_pos rfl]
      have hor := (how.trans (Out.rename how.heap how.ok hget hN)).shrink (h'' := (N, .arr (n + m) tie.lay.size (joinF n f k)) :: del h id) fun j u hj => by
        rw [get?_cons, get?_del] at hj ⊢
        by_cases e : N = j
        · rw [if_pos e] at hj ⊢; exact hj
        · rw [if_neg e] at hj ⊢
          split at hj
          · cases hj
          · rename_i e2; rw [if_neg e2, get?_put, if_neg e2]; exact hj
      refine wp_append rfl (by rw [hv]; exact hrun) (hK _ _ hor fun y hy => ?_)
      cases hy
      refine ⟨.inr rfl, .inr ⟨fun hx => ?_, o, cap, ?_, ?_, hroom, h4, ?_⟩⟩
      · rcases hx with hx | hx
        · exact hx.1 rfl
        · exact hG hx.2
      · simp
      · rcases ho2 with e | e
        · exact .inl e
        · exact .inr e
      · show _ ≤ bsize w' (if N = N then c.ρ id else _)
        rw [if_pos rfl]
        exact Nat.le_trans h5 (by rw [hw']; exact bsize_row hblk (by rw [ovr_len hlen]; exact Nat.le_refl _))
    · have hold : (Builtin.firstCells tie.lay.size n (.slice (some ⟨c.ρ id, o, none⟩) n cap)).run P c.w.drew = .ok xs.toArray c.w.drew := by
        refine run_firstCells_some (P := P) c.w.drew tie.lay.size n ⟨c.ρ id, o, none⟩ n cap xs hxl (fun j u hj => ?_)
        rw [add_lit]
        have hj' : j < xs.length := by
          rcases Nat.lt_or_ge j xs.length with e | e
          · exact e
          · rw [List.getElem?_eq_none e] at hj; cases hj
        have hn0 : n ≠ 0 := fun e => by rw [hxl, e] at hj'; simp at hj'
        have ho3 : o = 0 := by rcases ho2 with e | e; omega; simpa [pathOff] using e
        rw [ho3, Nat.zero_add]
        exact hblk.cell (by rw [List.getElem?_append_left hj']; exact hj)
      obtain ⟨r, c', hr, ho, hrr⟩ := append_grow (P := P) (ty := ty) (N := N) (f := f) (k := k) hti hte' (base := some ⟨c.ρ id, o, none⟩) (n := n) (cap := cap) (olds := xs) hh hc hN hold hr0 hsrc hrep (by omega) (by omega) hb
      exact wp_append rfl (by rw [hv]; exact hr) (hK _ _ (ho.shrink (hsub _)) fun y hy => by cases hy; exact hrr)
end
theorem Seq.over {F : Fr} {ops : Array Oper} {l : List Oper} {e h g : Asc} {N id : Nat} {K : St → Prop} {d : Tmp} {op : Op} {ty : TypeId} {pos : String} {af : Array Edge} {gd : Option (Nat × Bool)} {v u : AV} (ok : OpOk F.P ⟨some d, op, ty, pos, af, gd⟩ g e h (some v) ((N, u) :: del h id) [N]) (hw : wants ops ⟨some d, op, ty, pos, af, gd⟩ e = some true) (hd2 : Nat.blt d F.n = true)
    (hk : Seq F ops l ⟨(d, v) :: e, (N, u) :: del h id, g, N + 1⟩ K) : Seq F ops (⟨some d, op, ty, pos, af, gd⟩ :: l) ⟨e, h, g, N⟩ K :=
  Seq.step (s := ⟨e, h, g, N⟩) (N + 1) hw ok (fun n hn => by
    have : n = N := by simpa using hn
    subst this
    exact ⟨Nat.le_refl _, Nat.lt_succ_self _⟩) (Nat.le_succ _) hd2 hk
theorem addv_ok {P : Program} {t yt ty : TypeId} {g e h : Asc} {x y : Operand} {d : Option Tmp} {pos : String} {af : Array Edge} {gd : Option (Nat × Bool)} {k : IntKind} {n q : Int} (hx : ev g e x = some (.int k n)) (hy : ev g e y = some (.int k q)) (r : Int) (hr : k.wrap (n + q) = r) : OpOk P ⟨d, .binOp .add t x y yt, ty, pos, af, gd⟩ g e h (some (.int k r)) h [] := by
  refine OpOk.val fun c a he hh hc => ?_
  have h1 := rep_int (ev_rep he hx)
  have h2 := rep_int (ev_rep he hy)
  exact ⟨_, by simp [execOp, h1, h2, eqGuard, binOp]; rfl, by rw [← hr]; simp [Rep]⟩
theorem subv_ok {P : Program} {t yt ty : TypeId} {g e h : Asc} {x y : Operand} {d : Option Tmp} {pos : String} {af : Array Edge} {gd : Option (Nat × Bool)} {k : IntKind} {n q : Int} (hx : ev g e x = some (.int k n)) (hy : ev g e y = some (.int k q)) (r : Int) (hr : k.wrap (n - q) = r) : OpOk P ⟨d, .binOp .sub t x y yt, ty, pos, af, gd⟩ g e h (some (.int k r)) h [] := by
  refine OpOk.val fun c a he hh hc => ?_
  have h1 := rep_int (ev_rep he hx)
  have h2 := rep_int (ev_rep he hy)
  exact ⟨_, by simp [execOp, h1, h2, eqGuard, binOp]; rfl, by rw [← hr]; simp [Rep]⟩
end Go.V
