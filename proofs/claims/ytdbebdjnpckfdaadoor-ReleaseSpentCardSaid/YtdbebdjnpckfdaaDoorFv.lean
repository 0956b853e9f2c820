/- A region that draws its order: late operations that may make objects. -/
import Derived.Test.YtdbebdjnpckfdaaDoorFp
set_option linter.unusedSimpArgs false
set_option linter.unusedVariables false
namespace Go.V
open Go.RowKit Go.L Go.Chain
/-- A late operation, over what the turn leaves. -/
def LateOkF (P : Program) (ops : Array Oper) (g eL H : Asc) (it : It) : Prop := ∃ o, ops[it.j]? = some o ∧ o.dst = some it.d ∧ wants ops o eL = some true ∧ OpOk P o g eL H (some it.v) (it.n ++ H) (keys it.n)
theorem selH_congr {p q : Nat → Bool} : ∀ {its : List It}, (∀ x ∈ its, p x.j = q x.j) → selH p its = selH q its
  | [], _ => rfl
  | x :: r, h => by
    unfold selH
    rw [h x List.mem_cons_self, selH_congr fun y hy => h y (List.mem_cons_of_mem _ hy)]
def drawGB (ops : Array Oper) (n : Nat) (plan : List (Nat × Nat)) (late : List Nat) (t1 d1 p dp mp : Nat) (tail : List Nat) : Bool :=
  Nat.blt d1 n && (!memB d1 (dstsOf ops (mkP plan)) && (Nat.blt dp n && (!memB dp (dstsOf ops (mkP plan)) && (!Nat.beq dp d1 && (!memB p ((mkP plan).map (·.1)) && (!Nat.beq p t1 && (Nat.blt p ops.size && (Og.cov ops ((mkP plan).map (·.1) ++ [t1, p]) ((mkP plan).map (·.1) ++ [t1, p]).length p t1 && (((mkP plan).map (·.1)).all (fun i => !tbb mp i || Og.cov ops ((mkP plan).map (·.1) ++ [t1, p]) ((mkP plan).map (·.1) ++ [t1, p]).length p i) &&
  (nodupB ((mkP plan).map (·.1)) && (((mkP plan).map (·.1)).all (fun j => Nat.blt j ops.size && (match dstOf ops j with | some d => Nat.blt d n | none => false)) && (nodupB (dstsOf ops (mkP plan)) && (Og.acyc ops && (ancM ops plan plan 0 &&
    (!memB t1 ((mkP plan).map (·.1)) && (Nat.blt t1 ops.size && (((List.range ops.size).all fun j => memB j ((mkP plan).map (·.1) ++ [t1, p]) || ((mkP plan).map (·.1) ++ [t1, p]).all fun i => Og.cov ops (((mkP plan).map (·.1) ++ [t1, p]) ++ tail) ((mkP plan).map (·.1) ++ [t1, p]).length j i) &&
    (((mkP plan).map (·.1)).all (fun i => memB i late || Og.cov ops ((mkP plan).map (·.1)) ((mkP plan).map (·.1)).length t1 i) && (tailB ops tail (afterL ops ((mkP plan).map (·.1) ++ [t1, p])) && Nat.beq (((mkP plan).map (·.1) ++ [t1, p]).length + tail.length) ops.size)))))))))))))))))))
set_option maxHeartbeats 4000000 in
theorem VC.drawG {F : Fr} {id : Nat} {l : List Oper} {e h g : Asc} {N : Nat} {Q : Exit → St → Prop} (plan : List (Nat × Nat)) (late : List Nat) (t1 d1 p dp mp : Nat) (tail : List Nat) (hm : F.P.follows .mixedOrders = true) (hst : drawGB l.toArray F.n plan late t1 d1 p dp mp tail = true) {e0 : Asc} (he0 : dropO e (dstsOf l.toArray (mkP plan)) some = some e0) {e1 : Asc} (he1 : dropO e0 [d1, dp] some = some e1)
    {op : Op} {ty : TypeId} {pos : String} {af : Array Edge} {gd : Option (Nat × Bool)} (ho1 : l.toArray[t1]? = some ⟨some d1, op, ty, pos, af, gd⟩) {tops : List Oper} (htops : topsO l.toArray tail some = some tops)
    (hD : DSeq F.P l.toArray g e0 h (mkP plan) [] N [] (fun its N' _ => ∃ H2 v1 ns1 N2 vp, OpOk F.P ⟨some d1, op, ty, pos, af, gd⟩ g (selE (nrem late) its ++ e0) (selH (nrem late) its ++ h) (some v1) H2 ns1 ∧ (N' ≤ N2 ∧ ∀ n ∈ ns1, N' ≤ n ∧ n < N2) ∧ wants l.toArray ⟨some d1, op, ty, pos, af, gd⟩ (selE (nrem late) its ++ e0) = some true ∧
      (∀ i ∈ keys (selH (fun j => memB j late) its), get? H2 i = none) ∧ (∀ it ∈ its, it.j ∈ late → LateOkF F.P l.toArray g (selE (lateM late plan it.j) its ++ e1) H2 it) ∧
      LateOkF F.P l.toArray g ((d1, v1) :: (selE (fun i => nrem late i || tbb mp i) its ++ e1)) H2 ⟨p, dp, vp, []⟩ ∧ Seq F l.toArray tops ⟨(dp, vp) :: (d1, v1) :: (selE allB its ++ e1), selH (fun j => memB j late) its ++ H2, g, N2⟩ (Q .normal))) : VC F (.region id l.toArray true) Q ⟨e, h, g, N⟩ := by
  simp only [drawGB, Bool.and_eq_true] at hst
  obtain ⟨sd1, sd2, sp1, sp2, sp3, sp4, sp5, sp6, sp8, sp9, s1, s2, s3, s4, s6, s7, s8, s9, s10, s11, s12⟩ := hst
  have hd1n : d1 < F.n := by simpa [Nat.blt_eq] using sd1
  have hdpn : dp < F.n := by simpa [Nat.blt_eq] using sp1
  have hdpp : dp ∉ dstsOf l.toArray (mkP plan) := fun hx => by rw [memB_ok.2 hx] at sp2; cases sp2
  have hdd1 : dp ≠ d1 := fun e => by rw [e] at sp3; simp at sp3
  have hpP : p ∉ (mkP plan).map (·.1) := fun hx => by rw [memB_ok.2 hx] at sp4; cases sp4
  have hpt : p ≠ t1 := fun e => by rw [e] at sp5; simp at sp5
  have hplt : p < l.toArray.size := by simpa [Nat.blt_eq] using sp6
  have hd1p : d1 ∉ dstsOf l.toArray (mkP plan) := fun hx => by rw [memB_ok.2 hx] at sd2; cases sd2
  obtain ⟨tops', htops1, htops2⟩ := topsO_ok htops
  cases htops2
  intro a w hsim QC hQ
  refine F.L.any hm (Og.acyc_def s4) ?_
  obtain ⟨its, N', B', I, ⟨H2, v1, ns1, N2, vp, hok1, ⟨hN2, hns1⟩, hw1, hdis, hlate, hpost, hseq⟩, hmap, _, hdj, hitems, hinit, hfin, huniq, hkeys⟩ := drawn_core2 (B := []) (mkP plan) (fun _ _ h => by cases h) s1 s2 s3 s4 (ancM_ok (fun i hi => by rw [tbb_zero] at hi; cases hi) s6) he0 hD a w hsim
  have hP := nodupB_ok s1
  have hlt : ∀ j ∈ (mkP plan).map (·.1), j < l.toArray.size := fun j hj => by
    have := List.all_eq_true.1 s2 j hj
    simp only [Bool.and_eq_true] at this
    simpa [Nat.blt_eq] using this.1
  have ht1 : t1 ∉ (mkP plan).map (·.1) := fun hx => by rw [memB_ok.2 hx] at s7; cases s7
  have hds : ((mkP plan).map (·.1) ++ [t1, p]).Nodup := List.nodup_append.2 ⟨hP, by simpa using fun e => hpt e.symm, fun x hx y hy e => by
    rcases List.mem_cons.1 hy with hy | hy
    · rw [hy] at e; exact ht1 (e ▸ hx)
    · rw [List.mem_singleton.1 hy] at e; exact hpP (e ▸ hx)⟩
  let fl : List Nat → List Nat := fun r => r.filter fun i => memB i ((mkP plan).map (·.1))
  have hfl : ∀ r i, i ∈ fl r ↔ i ∈ r ∧ i ∈ (mkP plan).map (·.1) := fun r i => by
    show i ∈ r.filter _ ↔ _
    rw [List.mem_filter, memB_ok]
  have her : fl ((mkP plan).map (·.1) ++ [t1, p]) = (mkP plan).map (·.1) := by
    show List.filter _ _ = _
    rw [List.filter_append]
    have h1 : ((mkP plan).map (·.1)).filter (fun i => memB i ((mkP plan).map (·.1))) = (mkP plan).map (·.1) := List.filter_eq_self.2 fun i hi => memB_ok.2 hi
    have h2 : [t1, p].filter (fun i => memB i ((mkP plan).map (·.1))) = [] := by
      rw [List.filter_eq_nil_iff]
      intro i hi hm
      have hm := memB_ok.1 hm
      rcases List.mem_cons.1 hi with hi | hi
      · rw [hi] at hm; exact ht1 hm
      · rw [List.mem_singleton.1 hi] at hm; exact hpP hm
    rw [h1, h2, List.append_nil]
  have hkeys : ∀ it ∈ its, ∀ i ∈ keys it.n, N ≤ i ∧ i < N' := fun it hit i hi => by
    rcases hkeys it hit i hi with h1 | h1
    · exact h1
    · cases h1
  have hhN : ∀ i av, get? h i = some av → i < N := fun i av hi => by
    obtain ⟨c1, n1, _, ho1, _, hb1, _⟩ := hsim
    exact hb1 i (ho1.heap.A i av hi)
  have hoff : ∀ x ∈ its, ∀ i ∈ keys x.n, get? h i = none := fun x hx i hk => by
    cases hg : get? h i with
    | none => rfl
    | some u => have h1 := hhN i u hg; have h2 := (hkeys x hx i hk).1; omega
  have hdis2 : ∀ x ∈ its, x.j ∈ late → ∀ i ∈ keys x.n, get? H2 i = none := fun x hx hxl i hk => by
    refine hdis i ?_
    have h1 : get? (selH (fun j => memB j late) its) i = get? x.n i := by rw [selH_in huniq hx hk, if_pos (memB_ok.2 hxl)]
    obtain ⟨v, hv⟩ := keys_get hk
    exact get?_keys (h1.trans hv)
  let LH : List Nat → Asc := fun r => selH (fun j => memB j late && nrem r j) its
  have hLHout : ∀ r i, (∀ x ∈ its, i ∉ keys x.n) → get? (LH r) i = none := fun r i hn => selH_out fun x hx _ => hn x hx
  have hLHin : ∀ r i x, x ∈ its → i ∈ keys x.n → get? (LH r) i = if (memB x.j late && nrem r x.j) = true then get? x.n i else none := fun r i x hx hk => selH_in huniq hx hk
  have hapart : ∀ r i av, get? (LH r) i = some av → get? H2 i = none := fun r i av hi => by
    by_cases hx : ∃ x ∈ its, i ∈ keys x.n
    · obtain ⟨x, hx, hk⟩ := hx
      rw [hLHin r i x hx hk] at hi
      by_cases hb : (memB x.j late && nrem r x.j) = true
      · rw [Bool.and_eq_true] at hb
        exact hdis2 x hx (memB_ok.1 hb.1) i hk
      · rw [if_neg hb] at hi; cases hi
    · rw [hLHout r i fun x hx' hk => hx ⟨x, hx', hk⟩] at hi; cases hi
  have hsplitB : ∀ r, Split (LH r ++ H2) H2 (LH r) := fun r => ⟨fun i => by
    rw [get?_app]
    cases hl : get? (LH r) i with
    | none => cases get? H2 i <;> rfl
    | some u => rw [hapart r i u hl]; rfl, fun i av hi => hapart r i av hi⟩
  have hsplitA : ∀ r, (∀ i ∈ r, i ∈ late) → Split (selH (nrem r) its ++ h) (selH (nrem late) its ++ h) (LH r) := fun r hr => by
    have hnl : ∀ j, nrem late j = true → nrem r j = true := fun j hj => by
      unfold nrem at *
      cases hm : memB j r with
      | false => rfl
      | true => rw [memB_ok.2 (hr j (memB_ok.1 hm))] at hj; cases hj
    refine ⟨fun i => ?_, fun i av hi => ?_⟩
    · rw [get?_app, get?_app]
      by_cases hx : ∃ x ∈ its, i ∈ keys x.n
      · obtain ⟨x, hx, hk⟩ := hx
        rw [selH_in huniq hx hk, selH_in huniq hx hk, hLHin r i x hx hk, hoff x hx i hk]
        cases hm : memB x.j late with
        | true =>
          have h1 : nrem late x.j = false := by unfold nrem; rw [hm]; rfl
          rw [h1]
          cases nrem r x.j <;> simp
        | false =>
          have h1 : nrem late x.j = true := by unfold nrem; rw [hm]; rfl
          rw [h1, hnl _ h1]; simp
      · have hn : ∀ x ∈ its, i ∉ keys x.n := fun x hx' hk => hx ⟨x, hx', hk⟩
        rw [selH_out fun x hx _ => hn x hx, selH_out fun x hx _ => hn x hx, hLHout r i hn]
        cases get? h i <;> rfl
    · by_cases hx : ∃ x ∈ its, i ∈ keys x.n
      · obtain ⟨x, hx, hk⟩ := hx
        rw [hLHin r i x hx hk] at hi
        by_cases hb : (memB x.j late && nrem r x.j) = true
        · rw [Bool.and_eq_true] at hb
          rw [get?_app, selH_in huniq hx hk, hoff x hx i hk]
          have h1 : nrem late x.j = false := by unfold nrem; rw [hb.1]; rfl
          rw [h1]; rfl
        · rw [if_neg hb] at hi; cases hi
      · rw [hLHout r i fun x hx' hk => hx ⟨x, hx', hk⟩] at hi; cases hi
  let I2 : List Nat → Act → World → Prop := fun rem a w => (∀ i ∈ rem, (i ∈ late ∧ i ∈ (mkP plan).map (·.1)) ∨ i = p) ∧ ∃ (c : Ctx) (ns : List Nat), c.w = w ∧ Out F.c0 F.h0 (LH rem ++ H2) ns c ∧ EnvRep c g e1 a ∧ (∀ it ∈ its, it.j ∉ rem → it.d < a.tmps.size ∧ Rep c it.v .V [a.tmps.getD it.d undef]) ∧ Rep c v1 .V [a.tmps.getD d1 undef] ∧ (p ∉ rem → Rep c vp .V [a.tmps.getD dp undef]) ∧
    ((∀ i, c.A i → i < N2) ∧ ∀ i, c.A i → i < N ∨ N' ≤ i ∨ ∃ it ∈ its, it.j ∉ rem ∧ i ∈ keys it.n) ∧ a.tmps.size = F.n ∧ a.defers = F.D ∧ (∀ i, F.c0.A i → i < F.N0) ∧ ∀ x v, get? g x = some v → Rep F.c0 (.rptr false v) .V [.pointer (some ⟨x, 0, none⟩)]
  let J : List Nat → Act → World → Prop := fun rem a w => if t1 ∈ rem then p ∈ rem ∧ I (fl rem) a w else I2 rem a w
  have henvL : ∀ {e' : Asc} {c : Ctx} {a : Act} {r : List Nat}, (∀ i ∈ r, i ∈ late) → EnvRep c g e' a → (∀ it ∈ its, it.j ∉ r → it.d < a.tmps.size ∧ Rep c it.v .V [a.tmps.getD it.d undef]) → EnvRep c g (selE (nrem late) its ++ e') a := fun {e' c a r} hr hen hsl => by
    refine ⟨fun t v ht => ?_, hen.glob⟩
    rw [get?_app] at ht
    cases hs : get? (selE (nrem late) its) t with
    | none => rw [hs] at ht; exact hen.slot t v ht
    | some u =>
      rw [hs] at ht
      simp only [Option.some_or, Option.some.injEq] at ht
      subst ht
      obtain ⟨x, hx, hxl, rfl, rfl⟩ := selE_get hs
      refine hsl x hx fun hxr => ?_
      have := hr _ hxr
      unfold nrem at hxl
      rw [memB_ok.2 this] at hxl; cases hxl
  have hjinj : ∀ x ∈ its, ∀ y ∈ its, x.d = y.d → x.j = y.j := fun x hx y hy e => dsts_inj (nodupB_ok s3) (by rw [← hmap]; exact List.mem_map.2 ⟨x, hx, rfl⟩) (by rw [← hmap]; exact List.mem_map.2 ⟨y, hy, rfl⟩) (hdj x hx) (by rw [e]; exact hdj y hy)
  have hjj : ∀ x ∈ its, ∀ y ∈ its, x.j = y.j → x = y := by
    have hnd : (its.map (·.j)).Nodup := by rw [hmap]; exact hP
    have : ∀ {L : List It}, (L.map (·.j)).Nodup → ∀ x ∈ L, ∀ y ∈ L, x.j = y.j → x = y := by
      intro L
      induction L with
      | nil => intro _ x hx; cases hx
      | cons z L ih =>
        intro hn x hx y hy e
        simp only [List.map_cons, List.nodup_cons] at hn
        rcases List.mem_cons.1 hx with hx2 | hx2 <;> rcases List.mem_cons.1 hy with hy2 | hy2
        · rw [hx2, hy2]
        · exact absurd (List.mem_map.2 ⟨y, hy2, by rw [← hx2]; exact e.symm⟩) hn.1
        · exact absurd (List.mem_map.2 ⟨x, hx2, by rw [← hy2]; exact e⟩) hn.1
        · exact ih hn.2 x hx2 y hy2 e
    exact this hnd
  have he0k : ∀ t v, get? e0 t = some v → t ∉ dstsOf l.toArray (mkP plan) := fun t v ht => by
    rw [dropO_eq] at he0
    simp only [Option.some.injEq] at he0
    rw [← he0, get?_drop] at ht
    by_cases hm : memB t (dstsOf l.toArray (mkP plan)) = true
    · rw [if_pos hm] at ht; cases ht
    · exact fun x => hm (memB_ok.2 x)
  have he1s : ∀ t v, get? e1 t = some v → get? e0 t = some v ∧ t ≠ d1 ∧ t ≠ dp := fun t v ht => by
    rw [dropO_eq] at he1
    simp only [Option.some.injEq] at he1
    rw [← he1, get?_drop] at ht
    by_cases hm : memB t [d1, dp] = true
    · rw [if_pos hm] at ht; cases ht
    · rw [if_neg hm] at ht
      exact ⟨ht, fun e => hm (memB_ok.2 (by rw [e]; exact List.mem_cons_self)), fun e => hm (memB_ok.2 (by rw [e]; exact List.mem_cons_of_mem _ List.mem_cons_self))⟩
  have hitp : ∀ it ∈ its, it.d ≠ dp := fun it hit e => hdpp (e ▸ dstsOf_mem (by rw [← hmap]; exact List.mem_map.2 ⟨it, hit, rfl⟩) (hdj it hit))
  have hitd : ∀ it ∈ its, it.d ≠ d1 := fun it hit e => hd1p (e ▸ dstsOf_mem (by rw [← hmap]; exact List.mem_map.2 ⟨it, hit, rfl⟩) (hdj it hit))
  have hsz0 : l.toArray.size = tail.length + ((mkP plan).map (·.1) ++ [t1, p]).length := by have := Nat.eq_of_beq_eq_true s12; omega
  suffices hgoal : wpAny F.P .any l.toArray QC (tail.length + ((mkP plan).map (·.1) ++ [t1, p]).length) (Array.replicate l.toArray.size false) a { w with drawn := w.drawn + 1 } by rw [hsz0.symm] at hgoal; exact hgoal
  refine og3 (I := J) (ds := (mkP plan).map (·.1) ++ [t1, p]) hds (fun j hj => ?_) s4 (fun j hj => ?_) (fun rem hnd hsub j hj hwj hdown a w hJ => ?_) (fun a w hJ => ?_) _ ((mkP plan).map (·.1) ++ [t1, p]) (Array.replicate l.toArray.size false) a _ rfl hds (fun i hi => hi) (by simp) (fun i hi => ?_) (fun j o ho hl => ?_) ?_
  · rcases List.mem_append.1 hj with hj | hj
    · exact hlt j hj
    · rcases List.mem_cons.1 hj with hj | hj
      · rw [hj]; simpa [Nat.blt_eq] using s8
      · rw [List.mem_singleton.1 hj]; exact hplt
  · have := List.all_eq_true.1 s9 j (List.mem_range.2 hj)
    rw [Bool.or_eq_true] at this
    exact this.imp memB_ok.1 fun h1 i hi => ⟨_, _, List.all_eq_true.1 h1 i hi⟩
  · by_cases ht : t1 ∈ rem
    · obtain ⟨hpr, hJI⟩ : p ∈ rem ∧ I (fl rem) a w := by
        have hJ : (if t1 ∈ rem then p ∈ rem ∧ I (fl rem) a w else I2 rem a w) := hJ
        rwa [if_pos ht] at hJ
      have hsubP : ∀ i ∈ fl rem, i ∈ (mkP plan).map (·.1) := fun i hi => ((hfl rem i).1 hi).2
      have hflnd : (fl rem).Nodup := hnd.filter _
      have hnot : ∀ i ∈ (mkP plan).map (·.1), (i ∉ fl rem ↔ i ∉ rem) := fun i hi => by
        rw [hfl]
        exact ⟨fun h1 h2 => h1 ⟨h2, hi⟩, fun h1 h2 => h1 h2.1⟩
      have hjp : j ≠ p := fun e => by
        subst e
        exact absurd ht (cov_done (l := (mkP plan).map (·.1) ++ [t1, j]) (rem := rem) hdown _ j t1 hwj (List.mem_append_right _ List.mem_cons_self) sp8)
      by_cases hjt : j = t1
      · subst hjt
        have hrl : ∀ i ∈ fl rem, i ∈ late := fun i hi => by
          have hiP := hsubP i hi
          have h3 := List.all_eq_true.1 s10 i hiP
          rw [Bool.or_eq_true] at h3
          rcases h3 with h3 | h3
          · exact memB_ok.1 h3
          · refine absurd ((hfl rem i).1 hi).1 (cov_done (l := (mkP plan).map (·.1)) (rem := rem) (fun i k hi1 hi2 hw hk => hdown i k (List.mem_append_left _ hi1) hi2 hw (List.mem_append_left _ hk)) _ j i (fun k hk hkP => hwj k hk (List.mem_append_left _ hkP)) hiP h3)
        obtain ⟨c, ns, Bx, hBx, rfl, hout, hen, hsl, hA, hsz, hdf, hN0, hgl, hA2⟩ := hfin _ _ _ hJI
        have hBx0 : Bx = [] := by
          cases Bx with
          | nil => rfl
          | cons p r =>
            obtain ⟨k, v⟩ := p
            have := hBx k v (by rw [get?_cons, if_pos rfl])
            cases this
        subst hBx0
        rw [List.nil_append] at hout
        have hsp := hsplitA (fl rem) hrl
        have hLHe : LH (rem.erase j) = LH (fl rem) := by
          refine selH_congr fun x hx => ?_
          have hxP : x.j ∈ (mkP plan).map (·.1) := by rw [← hmap]; exact List.mem_map.2 ⟨x, hx, rfl⟩
          have hxj : x.j ≠ j := fun e => ht1 (e ▸ hxP)
          congr 1
          unfold nrem
          congr 1
          rw [Bool.eq_iff_iff, memB_ok, memB_ok, hnd.mem_erase_iff, hfl]
          exact ⟨fun h => ⟨h.2, hxP⟩, fun h => ⟨hxj, h.1⟩⟩
        have henv := henvL hrl hen hsl
        unfold wpOp
        simp only [ho1]
        rw [if_pos (wants_env henv hw1)]
        left
        refine hok1 c a henv (hout.heap.left hsp) hout.ok (fun n hn hAn => by have h8 := (hns1 n hn).1; have h9 := hA n hAn; omega) _ _ fun c' v' ho' hv' => ?_
        have ho' := ho'.framed (H' := LH (rem.erase j) ++ H2) hout.heap hsp (by rw [hLHe]; exact (hsplitB _).get)
        show (if j ∈ rem.erase j then _ else I2 (rem.erase j) (a.put (some d1) v') c'.w)
        rw [if_neg hnd.not_mem_erase]
        have hxe : ∀ x ∈ its, x.j ∉ rem.erase j → x.j ∉ fl rem := fun x hx hxr hxf => hxr ((hnd.mem_erase_iff).2 ⟨fun e => ht1 (e ▸ hsubP _ hxf), ((hfl rem _).1 hxf).1⟩)
        have hpo : ∀ t, t ≠ d1 → (a.put (some d1) v').tmps.getD t undef = a.tmps.getD t undef := fun t ht => by simp [Act.put, Array.getElem?_setIfInBounds, Ne.symm ht]
        refine ⟨fun i hi => ?_, c', _, rfl, hout.trans ho', ⟨fun t v ht => ?_, (hen.le ho'.le).glob⟩, fun x hx hxr => ⟨by rw [put_size]; exact (hsl x hx (hxe x hx hxr)).1, by rw [hpo _ (hitd x hx)]; exact (hsl x hx (hxe x hx hxr)).2.le ho'.le⟩, ?_, fun hn => absurd ((hnd.mem_erase_iff).2 ⟨fun e => hpt e, hpr⟩) hn, ⟨fun i hi => ?_, fun i hi => ?_⟩, by rw [put_size]; exact hsz, by rw [put_defers]; exact hdf, hN0, hgl⟩
        · have h2 := (hnd.mem_erase_iff).1 hi
          rcases List.mem_append.1 (hsub i h2.2) with h3 | h3
          · exact .inl ⟨hrl i ((hfl rem i).2 ⟨h2.2, h3⟩), h3⟩
          · rcases List.mem_cons.1 h3 with h3 | h3
            · exact absurd h3 h2.1
            · exact .inr (List.mem_singleton.1 h3)
        · obtain ⟨q1, q2⟩ := hen.slot t v (he1s t v ht).1
          refine ⟨by rw [put_size]; exact q1, ?_⟩
          rw [hpo _ (he1s t v ht).2.1]; exact q2.le ho'.le
        · have : (a.put (some d1) v').tmps.getD d1 undef = v' := by
            have : d1 < a.tmps.size := by rw [hsz]; exact hd1n
            simp [Act.put, this]
          rw [this]; exact hv' _ rfl
        · rcases ho'.A i hi with h1 | h1
          · have := hA i h1; omega
          · exact (hns1 i h1).2
        · rcases ho'.A i hi with h1 | h1
          · rcases hA2 i h1 with h2 | ⟨x, hx, hxr, hxk⟩
            · exact .inl h2
            · refine .inr (.inr ⟨x, hx, fun h3 => hxr ?_, hxk⟩)
              have hxP : x.j ∈ (mkP plan).map (·.1) := by rw [← hmap]; exact List.mem_map.2 ⟨x, hx, rfl⟩
              exact (hfl rem _).2 ⟨((hnd.mem_erase_iff).1 h3).2, hxP⟩
          · exact .inr (.inl (hns1 i h1).1)
      · have hjP : j ∈ (mkP plan).map (·.1) := by
          rcases List.mem_append.1 (hsub j hj) with h3 | h3
          · exact h3
          · rcases List.mem_cons.1 h3 with h3 | h3
            · exact absurd h3 hjt
            · exact absurd (List.mem_singleton.1 h3) hjp
        refine wpOp_mono (fun a' w' hI' => ?_) (hitems QC (fl rem) hflnd hsubP j ((hfl rem j).2 ⟨hj, hjP⟩) (fun i hw hi => (hnot i hi).2 (hwj i hw (List.mem_append_left _ hi))) (fun i k hi hir hw hk => (hnot k hk).2 (hdown i k (List.mem_append_left _ hi) ((hnot i hi).1 hir) hw (List.mem_append_left _ hk))) a w hJI)
        show (if t1 ∈ rem.erase j then p ∈ rem.erase j ∧ I (fl (rem.erase j)) a' w' else _)
        rw [if_pos ((hnd.mem_erase_iff).2 ⟨fun e => hjt e.symm, ht⟩)]
        refine ⟨(hnd.mem_erase_iff).2 ⟨fun e => hjp e.symm, hpr⟩, ?_⟩
        have : fl (rem.erase j) = (fl rem).erase j := filter_erase' hnd
        rw [this]; exact hI'
    · have hJ : I2 rem a w := by
        have hJ : (if t1 ∈ rem then p ∈ rem ∧ I (fl rem) a w else I2 rem a w) := hJ
        rwa [if_neg ht] at hJ
      obtain ⟨hrl, c, ns, rfl, hout, hen, hsl, hv1, hvp, ⟨hA, hA2⟩, hsz, hdf, hN0, hgl⟩ := hJ
      have hrlP : ∀ i ∈ rem, i ∈ (mkP plan).map (·.1) → i ∈ late := fun i hi hiP => by
        rcases hrl i hi with h1 | h1
        · exact h1.1
        · rw [h1] at hiP; exact absurd hiP hpP
      by_cases hjp : j = p
      · subst hjp
        obtain ⟨o, ho, hod, how, hoo⟩ := hpost
        have hod : o.dst = some dp := hod
        have henv : EnvRep c g ((d1, v1) :: (selE (fun i => nrem late i || tbb mp i) its ++ e1)) a := by
          refine ⟨fun t v ht => ?_, hen.glob⟩
          rw [get?_cons] at ht
          by_cases e9 : d1 = t
          · rw [if_pos e9] at ht
            cases ht
            subst e9
            exact ⟨by rw [hsz]; exact hd1n, hv1⟩
          rw [if_neg e9, get?_app] at ht
          cases hs : get? (selE (fun i => nrem late i || tbb mp i) its) t with
          | none => rw [hs] at ht; exact hen.slot t v ht
          | some u =>
            rw [hs] at ht
            simp only [Option.some_or, Option.some.injEq] at ht
            subst ht
            obtain ⟨x, hx, hxl, rfl, rfl⟩ := selE_get hs
            have hxP : x.j ∈ (mkP plan).map (·.1) := by rw [← hmap]; exact List.mem_map.2 ⟨x, hx, rfl⟩
            refine hsl x hx fun hxr => ?_
            rw [Bool.or_eq_true] at hxl
            rcases hxl with hxl | hxl
            · unfold nrem at hxl
              rw [memB_ok.2 (hrlP _ hxr hxP)] at hxl; cases hxl
            · have h3 := List.all_eq_true.1 sp9 x.j hxP
              rw [Bool.or_eq_true] at h3
              rcases h3 with h3 | h3
              · rw [hxl] at h3; cases h3
              · exact cov_done (l := (mkP plan).map (·.1) ++ [t1, j]) (rem := rem) hdown _ j x.j hwj (List.mem_append_left _ hxP) h3 hxr
        have hsp := hsplitB rem
        have hLHe : LH (rem.erase j) = LH rem := selH_congr fun x hx => by
          have hxP : x.j ∈ (mkP plan).map (·.1) := by rw [← hmap]; exact List.mem_map.2 ⟨x, hx, rfl⟩
          have hxj : x.j ≠ j := fun e => hpP (e ▸ hxP)
          congr 1
          unfold nrem
          congr 1
          rw [Bool.eq_iff_iff, memB_ok, memB_ok, hnd.mem_erase_iff]
          exact ⟨fun h => h.2, fun h => ⟨hxj, h⟩⟩
        unfold wpOp
        simp only [ho]
        rw [if_pos (wants_env henv how)]
        left
        refine hoo c a henv (hout.heap.left hsp) hout.ok (fun n hn => by cases hn) _ _ fun c' v' ho' hv' => ?_
        have ho' := ho'.framed (H' := LH (rem.erase j) ++ H2) hout.heap hsp (by rw [hLHe]; exact (hsplitB _).get)
        rw [hod]
        show (if t1 ∈ rem.erase j then _ else I2 (rem.erase j) (a.put (some dp) v') c'.w)
        rw [if_neg fun h1 => ht (List.mem_of_mem_erase h1)]
        have hpo : ∀ t, t ≠ dp → (a.put (some dp) v').tmps.getD t undef = a.tmps.getD t undef := fun t ht => by simp [Act.put, Array.getElem?_setIfInBounds, Ne.symm ht]
        refine ⟨fun i hi => hrl i (List.mem_of_mem_erase hi), c', _, rfl, hout.trans ho', ⟨fun t v ht => ?_, (hen.le ho'.le).glob⟩, fun x hx hxr => ?_, ?_, fun _ => ?_, ⟨fun i hi => ?_, fun i hi => ?_⟩, by rw [put_size]; exact hsz, by rw [put_defers]; exact hdf, hN0, hgl⟩
        · obtain ⟨q1, q2⟩ := hen.slot t v ht
          refine ⟨by rw [put_size]; exact q1, ?_⟩
          rw [hpo _ (he1s t v ht).2.2]; exact q2.le ho'.le
        · have hxj : x.j ≠ j := fun e => hpP (by rw [← e, ← hmap]; exact List.mem_map.2 ⟨x, hx, rfl⟩)
          obtain ⟨q1, q2⟩ := hsl x hx (fun h1 => hxr ((hnd.mem_erase_iff).2 ⟨hxj, h1⟩))
          refine ⟨by rw [put_size]; exact q1, ?_⟩
          rw [hpo _ (hitp x hx)]; exact q2.le ho'.le
        · rw [hpo _ (fun e => hdd1 e.symm)]; exact hv1.le ho'.le
        · have : (a.put (some dp) v').tmps.getD dp undef = v' := by
            have : dp < a.tmps.size := by rw [hsz]; exact hdpn
            simp [Act.put, this]
          rw [this]; exact hv' _ rfl
        · rcases ho'.A i hi with h1 | h1
          · exact hA i h1
          · cases h1
        · rcases ho'.A i hi with h1 | h1
          · rcases hA2 i h1 with h2 | h2 | ⟨x, hx, hxr, hxk⟩
            · exact .inl h2
            · exact .inr (.inl h2)
            · exact .inr (.inr ⟨x, hx, fun h3 => hxr (List.mem_of_mem_erase h3), hxk⟩)
          · cases h1
      obtain ⟨hjl, hjP⟩ : j ∈ late ∧ j ∈ (mkP plan).map (·.1) := (hrl j hj).resolve_right hjp
      obtain ⟨it, hit, rfl⟩ : ∃ it ∈ its, it.j = j := by
        rw [← hmap] at hjP
        obtain ⟨it, h1, h2⟩ := List.mem_map.1 hjP
        exact ⟨it, h1, h2⟩
      obtain ⟨o, ho, hod, how, hoo⟩ := hlate it hit hjl
      have hsp := hsplitB rem
      have hnew : ∀ i, get? (LH (rem.erase it.j) ++ H2) i = (get? (it.n ++ H2) i).or (get? (LH rem) i) := fun i => by
        rw [get?_app, get?_app]
        by_cases hx : ∃ x ∈ its, i ∈ keys x.n
        · obtain ⟨x, hx, hk⟩ := hx
          rw [hLHin _ i x hx hk, hLHin _ i x hx hk]
          by_cases ex : x = it
          · subst ex
            have h1 : nrem (rem.erase x.j) x.j = true := by
              unfold nrem
              cases hm : memB x.j (rem.erase x.j) with
              | false => rfl
              | true => exact absurd (memB_ok.1 hm) hnd.not_mem_erase
            rw [h1, memB_ok.2 hjl]
            obtain ⟨v, hv⟩ := keys_get hk
            rw [hv]; rfl
          · have hxj : x.j ≠ it.j := fun e' => ex (hjj x hx it hit e')
            have h1 : nrem (rem.erase it.j) x.j = nrem rem x.j := by
              unfold nrem
              congr 1
              rw [Bool.eq_iff_iff, memB_ok, memB_ok, hnd.mem_erase_iff]
              exact ⟨fun h => h.2, fun h => ⟨hxj, h⟩⟩
            have h2 : get? it.n i = none := get?_none fun hk2 => ex (huniq x hx it hit i hk hk2)
            rw [h1, h2]
            by_cases hb : (memB x.j late && nrem rem x.j) = true
            · rw [if_pos hb]
              rw [Bool.and_eq_true] at hb
              rw [hdis2 x hx (memB_ok.1 hb.1) i hk]
              cases get? x.n i <;> rfl
            · rw [if_neg hb]
              cases get? H2 i <;> rfl
        · have hn : ∀ x ∈ its, i ∉ keys x.n := fun x hx' hk => hx ⟨x, hx', hk⟩
          rw [hLHout _ i hn, hLHout _ i hn, get?_none (hn it hit)]
          cases get? H2 i <;> rfl
      have henv : EnvRep c g (selE (lateM late plan it.j) its ++ e1) a := by
        refine ⟨fun t v ht => ?_, hen.glob⟩
        rw [get?_app] at ht
        cases hs : get? (selE (lateM late plan it.j) its) t with
        | none => rw [hs] at ht; exact hen.slot t v ht
        | some u =>
          rw [hs] at ht
          simp only [Option.some_or, Option.some.injEq] at ht
          subst ht
          obtain ⟨x, hx, hxl, rfl, rfl⟩ := selE_get hs
          refine hsl x hx fun hxr => ?_
          unfold lateM at hxl
          rw [Bool.or_eq_true] at hxl
          rcases hxl with hxl | hxl
          · unfold nrem at hxl
            rw [memB_ok.2 (hrlP _ hxr (by rw [← hmap]; exact List.mem_map.2 ⟨x, hx, rfl⟩))] at hxl; cases hxl
          · obtain ⟨m, hm1, hm2⟩ := maskOf_mem hxl
            exact anc_done (ancM_ok (fun i hi => by rw [tbb_zero] at hi; cases hi) s6) s4 hlt (fun i k hi hir hw hk => hdown i k (List.mem_append_left _ hi) hir hw (List.mem_append_left _ hk)) it.j _ hm1 (fun k hk hkd => hwj k hk (List.mem_append_left _ hkd)) x.j (memB_ok.1 (tbb_bits hm2)) hxr
      unfold wpOp
      simp only [ho]
      rw [if_pos (wants_env henv how)]
      left
      refine hoo c a henv (hout.heap.left hsp) hout.ok (fun n hn hAn => by
        have hb := hkeys it hit n hn
        rcases hA2 n hAn with h1 | h1 | ⟨x, hx, hxr, hxk⟩
        · omega
        · omega
        · have := huniq x hx it hit n hxk hn
          subst this
          exact hxr hj) _ _ fun c' v' ho' hv' => ?_
      have ho' := ho'.framed (H' := LH (rem.erase it.j) ++ H2) hout.heap hsp hnew
      rw [hod]
      show (if t1 ∈ rem.erase it.j then _ else I2 (rem.erase it.j) (a.put (some it.d) v') c'.w)
      rw [if_neg fun h1 => ht (List.mem_of_mem_erase h1)]
      have hdd := (List.all_eq_true.1 s2 it.j hjP)
      simp only [Bool.and_eq_true, hdj it hit] at hdd
      have hd2 : it.d < F.n := by simpa [Nat.blt_eq] using hdd.2
      refine ⟨fun i hi => hrl i (List.mem_of_mem_erase hi), c', _, rfl, hout.trans ho', ?_, fun x hx hxr => ?_, ?_, fun hn => ?_, ⟨fun i hi => ?_, fun i hi => ?_⟩, by rw [put_size]; exact hsz, by rw [put_defers]; exact hdf, hN0, hgl⟩
      · refine ⟨fun t v ht => ?_, (hen.le ho'.le).glob⟩
        have hne : t ≠ it.d := fun e => he0k t v (he1s t v ht).1 (by rw [e]; exact dstsOf_mem hjP (hdj it hit))
        obtain ⟨q1, q2⟩ := hen.slot t v ht
        refine ⟨by rw [put_size]; exact q1, ?_⟩
        have : (a.put (some it.d) v').tmps.getD t undef = a.tmps.getD t undef := by simp [Act.put, Array.getElem?_setIfInBounds, Ne.symm hne]
        rw [this]; exact q2.le ho'.le
      · by_cases ex : x = it
        · subst ex
          refine ⟨by rw [put_size, hsz]; exact hd2, ?_⟩
          have : (a.put (some x.d) v').tmps.getD x.d undef = v' := by
            have : x.d < a.tmps.size := by rw [hsz]; exact hd2
            simp [Act.put, this]
          rw [this]; exact hv' _ rfl
        · have hxj : x.j ≠ it.j := fun e' => ex (hjj x hx it hit e')
          obtain ⟨q1, q2⟩ := hsl x hx (fun h1 => hxr ((hnd.mem_erase_iff).2 ⟨hxj, h1⟩))
          have hne : x.d ≠ it.d := fun e' => hxj (hjinj x hx it hit e')
          refine ⟨by rw [put_size]; exact q1, ?_⟩
          have : (a.put (some it.d) v').tmps.getD x.d undef = a.tmps.getD x.d undef := by simp [Act.put, Array.getElem?_setIfInBounds, Ne.symm hne]
          rw [this]; exact q2.le ho'.le
      · have : (a.put (some it.d) v').tmps.getD d1 undef = a.tmps.getD d1 undef := by simp [Act.put, Array.getElem?_setIfInBounds, hitd it hit]
        rw [this]; exact hv1.le ho'.le
      · have : (a.put (some it.d) v').tmps.getD dp undef = a.tmps.getD dp undef := by simp [Act.put, Array.getElem?_setIfInBounds, hitp it hit]
        rw [this]
        exact (hvp fun h1 => hn ((hnd.mem_erase_iff).2 ⟨fun e => hjp e.symm, h1⟩)).le ho'.le
      · rcases ho'.A i hi with h1 | h1
        · exact hA i h1
        · have := (hkeys it hit i h1).2; omega
      · rcases ho'.A i hi with h1 | h1
        · rcases hA2 i h1 with h2 | h2 | ⟨x, hx, hxr, hxk⟩
          · exact .inl h2
          · exact .inr (.inl h2)
          · exact .inr (.inr ⟨x, hx, fun h3 => hxr (List.mem_of_mem_erase h3), hxk⟩)
        · exact .inr (.inr ⟨it, hit, hnd.not_mem_erase, h1⟩)
  · have hJ : I2 [] a w := by
      have hJ : (if t1 ∈ ([] : List Nat) then p ∈ ([] : List Nat) ∧ I (fl []) a w else I2 [] a w) := hJ
      rwa [if_neg (by simp)] at hJ
    obtain ⟨_, c, ns, rfl, hout, hen, hsl, hv1, hvp, ⟨hA, _⟩, hsz, hdf, hN0, hgl⟩ := hJ
    have hL0 : LH [] = selH (fun j => memB j late) its := by
      have hf : (fun j => memB j late && nrem [] j) = fun j => memB j late := funext fun j => by
        have : nrem [] j = true := rfl
        rw [this, Bool.and_true]
      show selH (fun j => memB j late && nrem [] j) its = _
      rw [hf]
    rw [hL0] at hout
    refine tail_wp hseq (fun s' a' w' hq hs' => hQ _ _ _ _ hq hs') tail _ htops1 s11 a _ ⟨c, ns, rfl, hout, ⟨fun t v ht => ?_, hen.glob⟩, hA, hsz, hdf, hN0, hgl⟩
    have ht : get? ((dp, vp) :: (d1, v1) :: (selE allB its ++ e1)) t = some v := ht
    rw [get?_cons] at ht
    by_cases e8 : dp = t
    · rw [if_pos e8] at ht
      cases ht
      subst e8
      exact ⟨by rw [hsz]; exact hdpn, hvp (by simp)⟩
    rw [if_neg e8, get?_cons] at ht
    by_cases e1 : d1 = t
    · rw [if_pos e1] at ht
      cases ht
      subst e1
      exact ⟨by rw [hsz]; exact hd1n, hv1⟩
    rw [if_neg e1, get?_app] at ht
    cases hs : get? (selE allB its) t with
    | none => rw [hs] at ht; exact hen.slot t v ht
    | some u =>
      rw [hs] at ht
      simp only [Option.some_or, Option.some.injEq] at ht
      subst ht
      obtain ⟨x, hx, _, rfl, rfl⟩ := selE_get hs
      exact hsl x hx (by simp)
  · constructor
    · intro h; rw [Og.repF] at h; cases h
    · rintro ⟨h1, h2⟩; exact absurd h1 h2
  · rw [Og.repF] at hl; cases hl
  · show (if t1 ∈ (mkP plan).map (·.1) ++ [t1, p] then p ∈ (mkP plan).map (·.1) ++ [t1, p] ∧ I (fl ((mkP plan).map (·.1) ++ [t1, p])) a _ else _)
    rw [if_pos (by simp), her]
    refine ⟨by simp, ?_⟩
    exact hinit
def LateLF (P : Program) (ops : Array Oper) (g e1 H : Asc) (late : List Nat) (plan : List (Nat × Nat)) (its0 : List It) : List It → Prop
  | [] => True
  | ⟨j, d, v, n⟩ :: r => (bif memB j late then ∃ eL, selEO (lateM late plan j) e1 its0 some = some eL ∧ LateOkF P ops g eL H ⟨j, d, v, n⟩ else True) ∧ LateLF P ops g e1 H late plan its0 r
theorem lateLF_ok {P : Program} {ops : Array Oper} {g e1 H : Asc} {late : List Nat} {plan : List (Nat × Nat)} {its0 : List It} : ∀ {its : List It}, LateLF P ops g e1 H late plan its0 its → ∀ it ∈ its, it.j ∈ late → LateOkF P ops g (selE (lateM late plan it.j) its0 ++ e1) H it
  | [], _, it, h, _ => by cases h
  | x :: r, hl, it, h, hj => by
    rcases List.mem_cons.1 h with e | h
    · subst e
      have h1 := hl.1
      rw [memB_ok.2 hj] at h1
      obtain ⟨eL, h2, h3⟩ := h1
      rw [selEO_eq] at h2
      cases h2
      exact h3
    · exact lateLF_ok hl.2 it h hj
theorem lateXF {P : Program} {ops : Array Oper} {g e1 H eL : Asc} {late : List Nat} {plan : List (Nat × Nat)} {its0 : List It} {j : Nat} {it : It} (h1 : selEO (lateM late plan j) e1 its0 some = some eL) (h2 : LateOkF P ops g eL H it) : ∃ eL, selEO (lateM late plan j) e1 its0 some = some eL ∧ LateOkF P ops g eL H it := ⟨eL, h1, h2⟩
theorem late_evF {P : Program} {ops : Array Oper} {g eL H : Asc} {j : Nat} {d : Tmp} {v : AV} {op : Op} {ty : TypeId} {pos : String} {af : Array Edge} {gd : Option (Nat × Bool)} {ps : List Prop} (m : Bool) {T : List (Option TI)} (hT : TabOk P T) (ho : ops[j]? = some ⟨some d, op, ty, pos, af, gd⟩) (hns : notStore op = true) (hw : wants ops ⟨some d, op, ty, pos, af, gd⟩ eL = some true) (he : evalOp m T g eL H 0 op = some ⟨ps, some v, H, 0⟩) (hp : AllP ps) : LateOkF P ops g eL H ⟨j, d, v, []⟩ :=
  ⟨_, ho, rfl, hw, evalOp_ok hT (by cases op <;> first | rfl | cases hns) he hp⟩
theorem late_newF {P : Program} {ops : Array Oper} {g eL H : Asc} {j N : Nat} {d : Tmp} {v av : AV} {op : Op} {ty : TypeId} {pos : String} {af : Array Edge} {gd : Option (Nat × Bool)} {ps : List Prop} (m : Bool) {T : List (Option TI)} (hT : TabOk P T) (ho : ops[j]? = some ⟨some d, op, ty, pos, af, gd⟩) (hns : notStore op = true) (hw : wants ops ⟨some d, op, ty, pos, af, gd⟩ eL = some true) (he : evalOp m T g eL H N op = some ⟨ps, some v, (N, av) :: H, 1⟩) (hp : AllP ps) : LateOkF P ops g eL H ⟨j, d, v, [(N, av)]⟩ :=
  ⟨_, ho, rfl, hw, evalOp_ok hT (by cases op <;> first | rfl | cases hns) he hp⟩
theorem late_endG {F : Fr} {ops : Array Oper} {g e0 e1 h : Asc} {its : List It} {N : Nat} {late : List Nat} {plan : List (Nat × Nat)} {d1 dp : Tmp} {p mp : Nat} {op : Op} {ty : TypeId} {pos : String} {af : Array Edge} {gd : Option (Nat × Bool)} {tops : List Oper} {K : St → Prop} {eL hL e' eP H2 H3 : Asc} {v1 vp : AV} {ps : List Prop} (m : Bool) {T : List (Option TI)} (hT : TabOk F.P T)
    (hE : selEO (nrem late) e0 its some = some eL) (hH : selHO (nrem late) h its some = some hL) (he : evalOp m T g eL hL N op = some ⟨ps, some v1, H2, 1⟩) (hp : AllP ps) (hns : notStore op = true) (hw : wants ops ⟨some d1, op, ty, pos, af, gd⟩ eL = some true)
    (hdis : ((keys (selH (fun j => memB j late) its)).all fun i => !memB i (keys H2)) = true) (hl : LateLF F.P ops g e1 H2 late plan its its) (hEP : selEO (fun i => nrem late i || tbb mp i) e1 its some = some eP) (hpo : LateOkF F.P ops g ((d1, v1) :: eP) H2 ⟨p, dp, vp, []⟩)
    (hE2 : selEO allB e1 its some = some e') (hH3 : selHO (fun j => memB j late) H2 its some = some H3) (hk : Seq F ops tops ⟨(dp, vp) :: (d1, v1) :: e', H3, g, N + 1⟩ K) :
    ∃ H2 v1 ns1 N2 vp, OpOk F.P ⟨some d1, op, ty, pos, af, gd⟩ g (selE (nrem late) its ++ e0) (selH (nrem late) its ++ h) (some v1) H2 ns1 ∧ (N ≤ N2 ∧ ∀ n ∈ ns1, N ≤ n ∧ n < N2) ∧ wants ops ⟨some d1, op, ty, pos, af, gd⟩ (selE (nrem late) its ++ e0) = some true ∧
      (∀ i ∈ keys (selH (fun j => memB j late) its), get? H2 i = none) ∧ (∀ it ∈ its, it.j ∈ late → LateOkF F.P ops g (selE (lateM late plan it.j) its ++ e1) H2 it) ∧
      LateOkF F.P ops g ((d1, v1) :: (selE (fun i => nrem late i || tbb mp i) its ++ e1)) H2 ⟨p, dp, vp, []⟩ ∧ Seq F ops tops ⟨(dp, vp) :: (d1, v1) :: (selE allB its ++ e1), selH (fun j => memB j late) its ++ H2, g, N2⟩ K := by
  rw [selEO_eq] at hE hE2 hEP
  rw [selHO_eq] at hH hH3
  cases hE; cases hH; cases hE2; cases hEP; cases hH3
  refine ⟨H2, v1, [N], N + 1, vp, evalOp_ok hT (by cases op <;> first | rfl | cases hns) he hp, ⟨Nat.le_succ _, fun n hn => ?_⟩, hw, fun i hi => ?_, lateLF_ok hl, hpo, hk⟩
  · rw [List.mem_singleton.1 hn]
    exact ⟨Nat.le_refl _, Nat.lt_succ_self _⟩
  · have := List.all_eq_true.1 hdis i hi
    exact get?_none fun hx => by rw [memB_ok.2 hx] at this; cases this
end Go.V
