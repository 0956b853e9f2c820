/- A region that draws its order: two operations of which take objects, one behind the other; late reads may come behind the moves at its end. -/
import Derived.Test.YtmbldnahcmkpgaaDoorBi
import Derived.Test.YtmbldnahcmkpgaaDoorFp
set_option linter.unusedSimpArgs false
set_option linter.unusedVariables false
namespace Go.V
open Go.RowKit Go.L Go.Chain
def drawSB (ops : Array Oper) (n : Nat) (plan : List (Nat × Nat)) (late : List Nat) (ts : List (Nat × Nat)) (tail : List Nat) : Bool :=
  nodupB ((mkP plan).map (·.1)) && (((mkP plan).map (·.1)).all (fun j => Nat.blt j ops.size && (match dstOf ops j with | some d => Nat.blt d n | none => false)) && (nodupB (dstsOf ops (mkP plan)) && (Og.acyc ops && (ancM ops plan plan 0 &&
    (!ts.isEmpty && (ts.all (fun t => !memB t.1 ((mkP plan).map (·.1)) && (Nat.blt t.1 ops.size && (Nat.blt t.2 n && !memB t.2 (dstsOf ops (mkP plan))))) && (nodupB (ts.map (·.1)) && (nodupB (ts.map (·.2)) &&
    (((List.range ops.size).all fun j => memB j ((mkP plan).map (·.1) ++ ts.map (·.1)) || ((mkP plan).map (·.1) ++ ts.map (·.1)).all fun i => Og.cov ops ((mkP plan).map (·.1) ++ ts.map (·.1)) ((mkP plan).map (·.1) ++ ts.map (·.1)).length j i) &&
    (ts.all (fun t => ((mkP plan).map (·.1)).all fun i => memB i late || Og.cov ops ((mkP plan).map (·.1) ++ ts.map (·.1)) ((mkP plan).map (·.1) ++ ts.map (·.1)).length t.1 i) && (tailB ops tail (afterL ops ((mkP plan).map (·.1) ++ ts.map (·.1))) && Nat.beq (((mkP plan).map (·.1) ++ ts.map (·.1)).length + tail.length) ops.size)))))))))))
theorem nodup_map_inj {α β : Type} {f : α → β} : ∀ {L : List α}, (L.map f).Nodup → ∀ x ∈ L, ∀ y ∈ L, f x = f y → x = y
  | [], _, x, hx, _, _, _ => by cases hx
  | z :: L, hn, x, hx, y, hy, e => by
    simp only [List.map_cons, List.nodup_cons] at hn
    rcases List.mem_cons.1 hx with hx2 | hx2 <;> rcases List.mem_cons.1 hy with hy2 | hy2
    · rw [hx2, hy2]
    · exact absurd (List.mem_map.2 ⟨y, hy2, by rw [← hx2]; exact e.symm⟩) hn.1
    · exact absurd (List.mem_map.2 ⟨x, hx2, by rw [← hy2]; exact e⟩) hn.1
    · exact nodup_map_inj hn.2 x hx2 y hy2 e
theorem filter_erase {p : Nat → Bool} {j : Nat} : ∀ {l : List Nat}, (l.filter p).erase j = (l.erase j).filter p
  | [] => rfl
  | x :: l => by
    by_cases hx : x = j
    · subst hx
      by_cases hp : p x = true
      · rw [List.filter_cons_of_pos hp, List.erase_cons_head, List.erase_cons_head]
      · rw [List.filter_cons_of_neg hp, List.erase_cons_head]
        refine List.erase_of_not_mem fun h => hp (List.mem_filter.1 h).2
    · have hb : ¬ (x == j) = true := fun h => hx (beq_iff_eq.1 h)
      rw [List.erase_cons_tail hb]
      by_cases hp : p x = true
      · rw [List.filter_cons_of_pos hp, List.filter_cons_of_pos hp, List.erase_cons_tail hb, filter_erase]
      · rw [List.filter_cons_of_neg hp, List.filter_cons_of_neg hp, filter_erase]
def tsE (tits : List It) : Asc := tits.map fun x => (x.d, x.v)
theorem tsE_get {t : Nat} {v : AV} : ∀ {tits : List It}, get? (tsE tits) t = some v → ∃ x ∈ tits, x.d = t ∧ x.v = v
  | [], h => by cases h
  | x :: r, h => by
    have h : get? ((x.d, x.v) :: tsE r) t = some v := h
    rw [get?_cons] at h
    by_cases e : x.d = t
    · rw [if_pos e] at h; cases h; exact ⟨x, List.mem_cons_self, e, rfl⟩
    · rw [if_neg e] at h
      obtain ⟨y, hy, h1⟩ := tsE_get h
      exact ⟨y, List.mem_cons_of_mem _ hy, h1⟩
set_option maxHeartbeats 8000000 in
theorem VC.drawS2 {F : Fr} {id : Nat} {l : List Oper} {e h g : Asc} {N : Nat} {Q : Exit → St → Prop} (p1 p2 : List (Nat × Nat)) (late : List Nat) (ts : List (Nat × Nat)) (tail : List Nat) (eat1 eat2 : List Nat) (hm : F.P.follows .mixedOrders = true) (hst : drawSB l.toArray F.n (p1 ++ p2) late ts tail = true) {e0 : Asc} (he0 : dropO e (dstsOf l.toArray (mkP (p1 ++ p2))) some = some e0) {e1 : Asc} (he1 : dropO e0 (ts.map (·.2)) some = some e1)
    {tops : List Oper} (htops : topsO l.toArray tail some = some tops) {B1 B2 hA : Asc} (hB1 : keepO h eat1 some = some B1) (hB2 : keepO h eat2 some = some B2) (hDr : dropO h (eat1 ++ eat2) some = some hA) (hdis : (eat1.all fun i => !memB i eat2) = true)
    (hD : DSeq F.P l.toArray g e0 hA (mkP p1) [] N B1 (fun its1 N1 B' => B' = [] ∧ DSeq F.P l.toArray g e0 hA (mkP p2) its1 N1 B2 (fun its N' B'' => B'' = [] ∧ (its.all fun it => (keys it.n).all (Nat.ble N)) = true ∧ ∃ tits : List It, tits.map (fun x => (x.j, x.d)) = ts ∧ (∀ it ∈ tits, LateOkH F.P l.toArray g (selE (nrem late) its ++ e1) (selH allB its ++ hA) it) ∧
      (∀ it ∈ its, it.j ∈ late → LateOkH F.P l.toArray g (selE (lateM late (p1 ++ p2) it.j) its ++ e1) (selH allB its ++ hA) it) ∧ Seq F l.toArray tops ⟨tsE tits ++ (selE allB its ++ e1), selH allB its ++ hA, g, N'⟩ (Q .normal)))) : VC F (.region id l.toArray true) Q ⟨e, h, g, N⟩ := by
  obtain ⟨plan, hpl⟩ : ∃ plan, plan = p1 ++ p2 := ⟨_, rfl⟩
  rw [← hpl] at hst he0
  simp only [drawSB, Bool.and_eq_true] at hst
  obtain ⟨s1, s2, s3, s4, s6, st0, st1, st2, st3, s9, s10, s11, s12⟩ := hst
  obtain ⟨tops', htops1, htops2⟩ := topsO_ok htops
  cases htops2
  rw [keepO_eq] at hB1 hB2
  rw [dropO_eq] at hDr
  cases hB1; cases hB2; cases hDr
  have hP := nodupB_ok s1
  have hmk : mkP plan = mkP p1 ++ mkP p2 := by rw [hpl, mkP_app]
  have hk1 : ∀ i, i ∈ keys (keepL h eat1) → memB i eat1 = true := fun i hi => by
    obtain ⟨av, hav⟩ := keys_get hi
    rw [get?_keep] at hav
    by_cases hm : memB i eat1 = true
    · exact hm
    · rw [if_neg hm] at hav; cases hav
  have hk2 : ∀ i, i ∈ keys (keepL h eat2) → memB i eat2 = true := fun i hi => by
    obtain ⟨av, hav⟩ := keys_get hi
    rw [get?_keep] at hav
    by_cases hm : memB i eat2 = true
    · exact hm
    · rw [if_neg hm] at hav; cases hav
  have hd12 : ∀ i, memB i eat1 = true → memB i eat2 = false := fun i hi => by
    have := List.all_eq_true.1 hdis i (memB_ok.1 hi)
    simpa using this
  have hma : ∀ i, memB i (eat1 ++ eat2) = (memB i eat1 || memB i eat2) := fun i => by
    rw [Bool.eq_iff_iff, Bool.or_eq_true, memB_ok, memB_ok, memB_ok, List.mem_append]
  have hBd : ∀ i av, get? (keepL h eat1 ++ keepL h eat2) i = some av → get? (dropL h (eat1 ++ eat2)) i = none := fun i av hi => by
    have hi2 := get?_keys hi
    rw [get?_drop, if_pos]
    rw [hma, Bool.or_eq_true]
    rw [keys_app, List.mem_append] at hi2
    exact hi2.imp (hk1 i) (hk2 i)
  refine VC.conv (s' := ⟨e, (keepL h eat1 ++ keepL h eat2) ++ dropL h (eat1 ++ eat2), g, N⟩) (Sim.heap fun i => ?_) ?_
  · rw [get?_app, get?_app, get?_keep, get?_keep, get?_drop, hma]
    cases h1 : memB i eat1 <;> cases h2 : memB i eat2 <;> cases get? h i <;> rfl
  intro a w hsim QC hQ
  refine F.L.any hm (Og.acyc_def s4) ?_
  have hBN : ∀ i ∈ keys (keepL h eat1 ++ keepL h eat2), i < N := fun i hi => by
    obtain ⟨av, hav⟩ := keys_get hi
    obtain ⟨c1, n1, _, ho1, _, hb1, _⟩ := hsim
    exact hb1 i (ho1.heap.A i av (by rw [get?_app, hav]; rfl))
  have hnd12 : ((mkP p1).map (·.1)).Nodup ∧ ((mkP p2).map (·.1)).Nodup ∧ ∀ x ∈ (mkP p1).map (·.1), ∀ y ∈ (mkP p2).map (·.1), x ≠ y := by
    have := hP
    rw [hmk, List.map_append] at this
    exact List.nodup_append.1 this
  obtain ⟨post1, N1, B1', ea1, ⟨hB1', hD2⟩, hmap1, hN1, hkeys1, huniq1, heats1, hitems1⟩ := hD.out hnd12.1 (fun i hi => hBN i (by rw [keys_app, List.mem_append]; exact .inl hi))
  rw [List.nil_append] at hD2
  obtain ⟨post2, N', B2', ea2, ⟨hB2', hnew, tits, htm, htok, hlate, hseq⟩, hmap2, hN2, hkeys2, huniq2, heats2, hitems2⟩ := hD2.out hnd12.2.1 (fun i hi => Nat.lt_of_lt_of_le (hBN i (by rw [keys_app, List.mem_append]; exact .inr hi)) hN1)
  have hnw : ∀ it ∈ post1 ++ post2, ∀ i ∈ keys it.n, N ≤ i := fun it hit i hi => by
    have := List.all_eq_true.1 (List.all_eq_true.1 hnew it hit) i hi
    simpa [Nat.ble_eq] using this
  have hj1 : ∀ it ∈ post1, it.j ∈ (mkP p1).map (·.1) := fun it hit => by rw [← hmap1]; exact List.mem_map.2 ⟨it, hit, rfl⟩
  have hj2 : ∀ it ∈ post2, it.j ∈ (mkP p2).map (·.1) := fun it hit => by rw [← hmap2]; exact List.mem_map.2 ⟨it, hit, rfl⟩
  have hb1 : ∀ i ∈ keys (keepL h eat1), i < N := fun i hi => hBN i (by rw [keys_app, List.mem_append]; exact .inl hi)
  have hb2 : ∀ i ∈ keys (keepL h eat2), i < N := fun i hi => hBN i (by rw [keys_app, List.mem_append]; exact .inr hi)
  have hq1 : ∀ it ∈ post1, ∀ i ∈ keys it.n, N ≤ i ∧ i < N1 := fun it hit i hi => by
    have h1 := hnw it (List.mem_append_left _ hit) i hi
    rcases hkeys1 it hit i hi with h2 | ⟨_, h2⟩
    · exact h2
    · have := hb1 i h2; omega
  have hq2 : ∀ it ∈ post2, ∀ i ∈ keys it.n, N1 ≤ i ∧ i < N' := fun it hit i hi => by
    have h1 := hnw it (List.mem_append_right _ hit) i hi
    rcases hkeys2 it hit i hi with h2 | ⟨_, h2⟩
    · exact h2
    · have := hb2 i h2; omega
  have hmem : ∀ {x : Nat} {L : List Nat}, memB x L = true ↔ x ∈ L := memB_ok
  let its := post1 ++ post2
  let ea : Nat → Nat → Bool := fun j i => (memB j ((mkP p1).map (·.1)) && ea1 j && memB i eat1) || (memB j ((mkP p2).map (·.1)) && ea2 j && memB i eat2)
  have hea1 : ∀ it ∈ post1, ∀ i, ea it.j i = (ea1 it.j && memB i eat1) := fun it hit i => by
    have h1 : memB it.j ((mkP p1).map (·.1)) = true := memB_ok.2 (hj1 it hit)
    have h2 : memB it.j ((mkP p2).map (·.1)) = false := by
      cases hx : memB it.j ((mkP p2).map (·.1)) with
      | false => rfl
      | true => exact absurd rfl (hnd12.2.2 _ (hj1 it hit) _ (memB_ok.1 hx))
    show ((memB it.j _ && ea1 it.j && memB i eat1) || (memB it.j _ && ea2 it.j && memB i eat2)) = _
    rw [h1, h2]; simp
  have hea2 : ∀ it ∈ post2, ∀ i, ea it.j i = (ea2 it.j && memB i eat2) := fun it hit i => by
    have h1 : memB it.j ((mkP p2).map (·.1)) = true := memB_ok.2 (hj2 it hit)
    have h2 : memB it.j ((mkP p1).map (·.1)) = false := by
      cases hx : memB it.j ((mkP p1).map (·.1)) with
      | false => rfl
      | true => exact absurd rfl (hnd12.2.2 _ (memB_ok.1 hx) _ (hj2 it hit))
    show ((memB it.j _ && ea1 it.j && memB i eat1) || (memB it.j _ && ea2 it.j && memB i eat2)) = _
    rw [h1, h2]; simp
  have hf1 : ∀ it ∈ post1, ea1 it.j = true → filA (ea it.j) (keepL h eat1 ++ keepL h eat2) = keepL h eat1 := fun it hit he => by
    rw [filA_app, filA_all (fun i hi => by rw [hea1 it hit, he, hk1 i hi]; rfl), filA_none (fun i hi => by
      rw [hea1 it hit]
      cases hx : memB i eat1 with
      | false => simp
      | true => have := hd12 i hx; rw [hk2 i hi] at this; cases this), List.append_nil]
  have hf2 : ∀ it ∈ post2, ea2 it.j = true → filA (ea it.j) (keepL h eat1 ++ keepL h eat2) = keepL h eat2 := fun it hit he => by
    rw [filA_app, filA_none (fun i hi => by rw [hea2 it hit, hd12 i (hk1 i hi)]; simp), filA_all (fun i hi => by rw [hea2 it hit, he, hk2 i hi]; rfl), List.nil_append]
  have hF : Feed F.P l.toArray g e0 (dropL h (eat1 ++ eat2)) (keepL h eat1 ++ keepL h eat2) (mkP plan) its N N' ea := by
    refine ⟨by rw [hmk, List.map_append, List.map_append, hmap1, hmap2], fun it hit i hi => ?_, Nat.le_trans hN1 hN2, fun x hx y hy i hxi hyi => ?_, fun it hit => ?_, fun i x hx y hy hxe hye => ?_⟩
    · rcases List.mem_append.1 hit with h1 | h1
      · have := hq1 it h1 i hi; omega
      · have := hq2 it h1 i hi; omega
    · rcases List.mem_append.1 hx with h1 | h1 <;> rcases List.mem_append.1 hy with h2 | h2
      · exact huniq1 x h1 y h2 i hxi hyi
      · have := hq1 x h1 i hxi; have := hq2 y h2 i hyi; omega
      · have := hq2 x h1 i hxi; have := hq1 y h2 i hyi; omega
      · exact huniq2 x h1 y h2 i hxi hyi
    · rcases List.mem_append.1 hit with h1 | h1
      · obtain ⟨a1, b1, e1⟩ := List.append_of_mem h1
        obtain ⟨anc, o, q1, q2, q3⟩ := hitems1 a1 it b1 e1
        refine ⟨a1, b1 ++ post2, anc, o, by show post1 ++ post2 = _; rw [e1]; simp, by rw [hmk]; exact List.mem_append_left _ q1, q2, ?_⟩
        rcases q3 with ⟨q3, q4⟩ | ⟨q3, ns, q4, q5⟩
        · exact .inl ⟨fun i _ => by rw [hea1 it h1, q3]; rfl, by simpa using q4⟩
        · exact .inr ⟨ns, by rw [hf1 it h1 q3]; simpa using q4, q5⟩
      · obtain ⟨a1, b1, e1⟩ := List.append_of_mem h1
        obtain ⟨anc, o, q1, q2, q3⟩ := hitems2 a1 it b1 e1
        refine ⟨post1 ++ a1, b1, anc, o, by show post1 ++ post2 = _; rw [e1]; simp, by rw [hmk]; exact List.mem_append_right _ q1, q2, ?_⟩
        rcases q3 with ⟨q3, q4⟩ | ⟨q3, ns, q4, q5⟩
        · exact .inl ⟨fun i _ => by rw [hea2 it h1, q3]; rfl, q4⟩
        · exact .inr ⟨ns, by rw [hf2 it h1 q3]; exact q4, fun i hi => ⟨(q5 i hi).1, Nat.le_trans hN1 (q5 i hi).2⟩⟩
    · have he1 : ∀ it ∈ post1, ea it.j i = true → ea1 it.j = true ∧ memB i eat1 = true := fun it hit he => by
        rw [hea1 it hit, Bool.and_eq_true] at he; exact he
      have he2 : ∀ it ∈ post2, ea it.j i = true → ea2 it.j = true ∧ memB i eat2 = true := fun it hit he => by
        rw [hea2 it hit, Bool.and_eq_true] at he; exact he
      rcases List.mem_append.1 hx with h1 | h1 <;> rcases List.mem_append.1 hy with h2 | h2
      · exact heats1.one x h1 y h2 (he1 x h1 hxe).1 (he1 y h2 hye).1
      · have := hd12 i (he1 x h1 hxe).2; rw [(he2 y h2 hye).2] at this; cases this
      · have := hd12 i (he1 y h2 hye).2; rw [(he2 x h1 hxe).2] at this; cases this
      · exact heats2.one x h1 y h2 (he2 x h1 hxe).1 (he2 y h2 hye).1
  have hmap : its.map (·.j) = (mkP plan).map (·.1) := hF.map
  obtain ⟨I, hdj, hitems, hinit, hfin⟩ := drawn_core3 (mkP plan) hBd s1 s2 s3 s4 (ancM_ok (fun i hi => by rw [tbb_zero] at hi; cases hi) s6) he0 hF a w hsim
  rw [← hpl] at hlate
  have hlt : ∀ j ∈ (mkP plan).map (·.1), j < l.toArray.size := fun j hj => by
    have := List.all_eq_true.1 s2 j hj
    simp only [Bool.and_eq_true] at this
    simpa [Nat.blt_eq] using this.1
  have hts1 : ts.map (·.1) = tits.map (·.j) := by rw [← htm, List.map_map]; rfl
  have hts2 : ts.map (·.2) = tits.map (·.d) := by rw [← htm, List.map_map]; rfl
  have htin : ∀ x ∈ tits, (x.j, x.d) ∈ ts := fun x hx => by rw [← htm]; exact List.mem_map.2 ⟨x, hx, rfl⟩
  have htj : ∀ x ∈ tits, x.j ∈ ts.map (·.1) := fun x hx => by rw [hts1]; exact List.mem_map.2 ⟨x, hx, rfl⟩
  have htp : ∀ t ∈ ts, t.1 ∉ (mkP plan).map (·.1) ∧ t.1 < l.toArray.size ∧ t.2 < F.n ∧ t.2 ∉ dstsOf l.toArray (mkP plan) := fun t ht => by
    have := List.all_eq_true.1 st1 t ht
    simp only [Bool.and_eq_true] at this
    obtain ⟨q1, q2, q3, q4⟩ := this
    refine ⟨fun hx => ?_, by simpa [Nat.blt_eq] using q2, by simpa [Nat.blt_eq] using q3, fun hx => ?_⟩
    · rw [memB_ok.2 hx] at q1; cases q1
    · rw [memB_ok.2 hx] at q4; cases q4
  have htpJ : ∀ j ∈ ts.map (·.1), j ∉ (mkP plan).map (·.1) ∧ j < l.toArray.size := fun j hj => by
    obtain ⟨t, ht, rfl⟩ := List.mem_map.1 hj
    exact ⟨(htp t ht).1, (htp t ht).2.1⟩
  have hds : ((mkP plan).map (·.1) ++ ts.map (·.1)).Nodup := List.nodup_append.2 ⟨hP, nodupB_ok st2, fun x hx y hy e => (htpJ y hy).1 (e ▸ hx)⟩
  let al := its ++ tits
  have halj : al.map (·.j) = (mkP plan).map (·.1) ++ ts.map (·.1) := by show (its ++ tits).map _ = _; rw [List.map_append, hmap, hts1]
  have hjj : ∀ x ∈ al, ∀ y ∈ al, x.j = y.j → x = y := nodup_map_inj (by rw [halj]; exact hds)
  have hitP : ∀ x ∈ its, x.j ∈ (mkP plan).map (·.1) := fun x hx => by rw [← hmap]; exact List.mem_map.2 ⟨x, hx, rfl⟩
  have hitd : ∀ x ∈ its, x.d ∈ dstsOf l.toArray (mkP plan) := fun x hx => dstsOf_mem (hitP x hx) (hdj x hx)
  have hjd : ∀ x ∈ al, ∀ y ∈ al, x.d = y.d → x = y := fun x hx y hy e => by
    rcases List.mem_append.1 hx with h1 | h1 <;> rcases List.mem_append.1 hy with h2 | h2
    · exact hjj x hx y hy (dsts_inj (nodupB_ok s3) (hitP x h1) (hitP y h2) (hdj x h1) (by rw [e]; exact hdj y h2))
    · exact absurd (hitd x h1) (by rw [e]; exact (htp _ (htin y h2)).2.2.2)
    · exact absurd (hitd y h2) (by rw [← e]; exact (htp _ (htin x h1)).2.2.2)
    · exact nodup_map_inj (f := fun x : It => x.d) (by rw [← hts2]; exact nodupB_ok st3) x h1 y h2 e
  have hald : ∀ x ∈ al, x.d < F.n := fun x hx => by
    rcases List.mem_append.1 hx with h1 | h1
    · have hdd := (List.all_eq_true.1 s2 x.j (hitP x h1))
      simp only [Bool.and_eq_true, hdj x h1] at hdd
      simpa [Nat.blt_eq] using hdd.2
    · exact (htp _ (htin x h1)).2.2.1
  have he0k : ∀ t v, get? e0 t = some v → t ∉ dstsOf l.toArray (mkP plan) := fun t v ht => by
    rw [dropO_eq] at he0
    simp only [Option.some.injEq] at he0
    rw [← he0, get?_drop] at ht
    by_cases hm : memB t (dstsOf l.toArray (mkP plan)) = true
    · rw [if_pos hm] at ht; cases ht
    · exact fun x => hm (memB_ok.2 x)
  have he1s : ∀ t v, get? e1 t = some v → get? e0 t = some v ∧ t ∉ ts.map (·.2) := fun t v ht => by
    rw [dropO_eq] at he1
    simp only [Option.some.injEq] at he1
    rw [← he1, get?_drop] at ht
    by_cases hm : memB t (ts.map (·.2)) = true
    · rw [if_pos hm] at ht; cases ht
    · rw [if_neg hm] at ht
      exact ⟨ht, fun e => hm (memB_ok.2 e)⟩
  have he1n : ∀ t v, get? e1 t = some v → ∀ x ∈ al, t ≠ x.d := fun t v ht x hx e => by
    rcases List.mem_append.1 hx with h1 | h1
    · exact he0k t v (he1s t v ht).1 (by rw [e]; exact hitd x h1)
    · exact (he1s t v ht).2 (by rw [e, hts2]; exact List.mem_map.2 ⟨x, h1, rfl⟩)
  have hsub : ∀ (Bx : Asc), (∀ i av, get? Bx i = some av → get? (keepL h eat1 ++ keepL h eat2) i = some av) → ∀ i av, get? (selH allB its ++ dropL h (eat1 ++ eat2)) i = some av → get? (selH allB its ++ (Bx ++ dropL h (eat1 ++ eat2))) i = some av := fun Bx hBx i av hi => by
    rw [get?_app]
    rw [get?_app] at hi
    cases hs : get? (selH allB its) i with
    | some u => rw [hs] at hi; exact hi
    | none =>
      rw [hs] at hi
      rw [get?_app]
      cases hx : get? Bx i with
      | none => exact hi
      | some u =>
        have := hBd i u (hBx i u hx)
        simp only [Option.none_or] at hi
        rw [this] at hi; cases hi
  let I2 : List Nat → Act → World → Prop := fun rem a w => (∀ i ∈ rem, (i ∈ late ∧ i ∈ (mkP plan).map (·.1)) ∨ i ∈ ts.map (·.1)) ∧ ∃ (c : Ctx) (ns : List Nat), c.w = w ∧ Out F.c0 F.h0 (selH allB its ++ dropL h (eat1 ++ eat2)) ns c ∧ EnvRep c g e1 a ∧ (∀ it ∈ al, it.j ∉ rem → it.d < a.tmps.size ∧ Rep c it.v .V [a.tmps.getD it.d undef]) ∧
    (∀ i, c.A i → i < N') ∧ a.tmps.size = F.n ∧ a.defers = F.D ∧ (∀ i, F.c0.A i → i < F.N0) ∧ ∀ x v, get? g x = some v → Rep F.c0 (.rptr false v) .V [.pointer (some ⟨x, 0, none⟩)]
  let fil : List Nat → List Nat := fun rem => rem.filter fun i => !memB i (ts.map (·.1))
  have hfil : ∀ {rem : List Nat} {i : Nat}, i ∈ fil rem ↔ i ∈ rem ∧ i ∉ ts.map (·.1) := fun {rem i} => by
    show i ∈ rem.filter _ ↔ _
    rw [List.mem_filter]
    refine and_congr_right fun _ => ?_
    cases hm : memB i (ts.map (·.1)) with
    | true => exact ⟨fun h => (by cases h), fun h => absurd (memB_ok.1 hm) h⟩
    | false => exact ⟨fun _ hx => (by rw [memB_ok.2 hx] at hm; cases hm), fun _ => rfl⟩
  let J : List Nat → Act → World → Prop := fun rem a w => ((∀ t ∈ ts.map (·.1), t ∈ rem) ∧ I (fil rem) a w) ∨ ((∃ t ∈ ts.map (·.1), t ∉ rem) ∧ I2 rem a w)
  have hpo : ∀ (a : Act) (d t : Nat) (v' : Value), t ≠ d → (a.put (some d) v').tmps.getD t undef = a.tmps.getD t undef := fun a d t v' ht => by simp [Act.put, Array.getElem?_setIfInBounds, Ne.symm ht]
  -- one operation of the second part
  have hstep : ∀ (rem : List Nat) (it : It), rem.Nodup → it ∈ al → ∀ (eL : Asc) (a : Act) (c : Ctx) (ns : List Nat), LateOkH F.P l.toArray g eL (selH allB its ++ dropL h (eat1 ++ eat2)) it → EnvRep c g eL a → (∀ i ∈ rem.erase it.j, (i ∈ late ∧ i ∈ (mkP plan).map (·.1)) ∨ i ∈ ts.map (·.1)) → Out F.c0 F.h0 (selH allB its ++ dropL h (eat1 ++ eat2)) ns c → EnvRep c g e1 a → (∀ x ∈ al, x.j ∉ rem → x.d < a.tmps.size ∧ Rep c x.v .V [a.tmps.getD x.d undef]) → (∀ i, c.A i → i < N') → a.tmps.size = F.n → a.defers = F.D → (∀ i, F.c0.A i → i < F.N0) → (∀ x v, get? g x = some v → Rep F.c0 (.rptr false v) .V [.pointer (some ⟨x, 0, none⟩)]) →
      wpOp F.P l.toArray QC it.j (fun a' w' => I2 (rem.erase it.j) a' w') a c.w := fun rem it hnd hit eL a c ns hok henv hrl hout hen hsl hA hsz hdf hN0 hgl => by
    obtain ⟨_, o, ho, hod, how, hoo⟩ := hok
    unfold wpOp
    simp only [ho]
    rw [if_pos (wants_env henv how)]
    left
    refine hoo c a henv hout.heap hout.ok (fun n hn => by cases hn) _ _ fun c' v' ho' hv' => ?_
    rw [hod]
    refine ⟨hrl, c', _, rfl, hout.trans ho', ?_, fun x hx hxr => ?_, fun i hi => ?_, by rw [put_size]; exact hsz, by rw [put_defers]; exact hdf, hN0, hgl⟩
    · refine ⟨fun t v ht => ?_, (hen.le ho'.le).glob⟩
      obtain ⟨q1, q2⟩ := hen.slot t v ht
      refine ⟨by rw [put_size]; exact q1, ?_⟩
      rw [hpo _ _ _ _ (he1n t v ht it hit)]; exact q2.le ho'.le
    · by_cases ex : x = it
      · subst ex
        refine ⟨by rw [put_size, hsz]; exact hald x hx, ?_⟩
        have : (a.put (some x.d) v').tmps.getD x.d undef = v' := by
          have : x.d < a.tmps.size := by rw [hsz]; exact hald x hx
          simp [Act.put, this]
        rw [this]; exact hv' _ rfl
      · have hxj : x.j ≠ it.j := fun e' => ex (hjj x hx it hit e')
        obtain ⟨q1, q2⟩ := hsl x hx (fun h1 => hxr ((hnd.mem_erase_iff).2 ⟨hxj, h1⟩))
        have hne : x.d ≠ it.d := fun e' => ex (hjd x hx it hit e')
        refine ⟨by rw [put_size]; exact q1, ?_⟩
        rw [hpo _ _ _ _ hne]; exact q2.le ho'.le
    · rcases ho'.A i hi with h1 | h1
      · exact hA i h1
      · cases h1
  have henvP : ∀ {c : Ctx} {a : Act} (p : Nat → Bool), EnvRep c g e1 a → (∀ it ∈ its, p it.j = true → it.d < a.tmps.size ∧ Rep c it.v .V [a.tmps.getD it.d undef]) → EnvRep c g (selE p its ++ e1) a := fun {c a} p hen hsl => by
    refine ⟨fun t v ht => ?_, hen.glob⟩
    rw [get?_app] at ht
    cases hs : get? (selE p its) t with
    | none => rw [hs] at ht; exact hen.slot t v ht
    | some u =>
      rw [hs] at ht
      simp only [Option.some_or, Option.some.injEq] at ht
      subst ht
      obtain ⟨x, hx, hxl, rfl, rfl⟩ := selE_get hs
      exact hsl x hx hxl
  have hsz0 : l.toArray.size = tail.length + ((mkP plan).map (·.1) ++ ts.map (·.1)).length := by have := Nat.eq_of_beq_eq_true s12; omega
  suffices hgoal : wpAny F.P .any l.toArray QC (tail.length + ((mkP plan).map (·.1) ++ ts.map (·.1)).length) (Array.replicate l.toArray.size false) a { w with drawn := w.drawn + 1 } by rw [hsz0.symm] at hgoal; exact hgoal
  have hne : ∃ t, t ∈ ts.map (·.1) := by
    cases ts with
    | nil => cases st0
    | cons t r => exact ⟨t.1, List.mem_cons_self⟩
  refine og2 (I := J) (ds := (mkP plan).map (·.1) ++ ts.map (·.1)) hds (fun j hj => ?_) s4 (fun j hj => ?_) (fun rem hnd hsubr j hj hwj hdown a w hJ => ?_) (fun a w hJ => ?_) _ ((mkP plan).map (·.1) ++ ts.map (·.1)) (Array.replicate l.toArray.size false) a _ rfl hds (fun i hi => hi) (by simp) (fun i hi => ?_) (fun j o ho hl => ?_) ?_
  · rcases List.mem_append.1 hj with hj | hj
    · exact hlt j hj
    · exact (htpJ j hj).2
  · have := List.all_eq_true.1 s9 j (List.mem_range.2 hj)
    rw [Bool.or_eq_true] at this
    exact this.imp memB_ok.1 fun h1 i hi => List.all_eq_true.1 h1 i hi
  · have hcov : ∀ t ∈ ts.map (·.1), (∀ k, waits .any l.toArray t k = true → k ∈ (mkP plan).map (·.1) ++ ts.map (·.1) → k ∉ rem) → ∀ i ∈ (mkP plan).map (·.1), i ∈ rem → i ∈ late := fun t ht hw i hiP hir => by
      obtain ⟨tt, htt, rfl⟩ := List.mem_map.1 ht
      have h3 := List.all_eq_true.1 (List.all_eq_true.1 s10 tt htt) i hiP
      rw [Bool.or_eq_true] at h3
      rcases h3 with h3 | h3
      · exact memB_ok.1 h3
      · exact absurd hir (cov_done (l := (mkP plan).map (·.1) ++ ts.map (·.1)) (rem := rem) (fun i k hi1 hi2 hw hk => hdown i k hi1 hi2 hw hk) _ _ i hw (List.mem_append_left _ hiP) h3)
    rcases hJ with ⟨hall, hI⟩ | ⟨hsome, hI⟩
    · by_cases hjt : j ∈ ts.map (·.1)
      · -- the first of the moves
        obtain ⟨it, hit, rfl⟩ : ∃ it ∈ tits, it.j = j := by
          rw [hts1] at hjt
          obtain ⟨it, h1, h2⟩ := List.mem_map.1 hjt
          exact ⟨it, h1, h2⟩
        have hlr : ∀ i ∈ rem, (i ∈ late ∧ i ∈ (mkP plan).map (·.1)) ∨ i ∈ ts.map (·.1) := fun i hi => by
          rcases List.mem_append.1 (hsubr i hi) with h3 | h3
          · exact .inl ⟨hcov _ hjt hwj i h3 hi, h3⟩
          · exact .inr h3
        obtain ⟨c, ns, Bx, hBx, rfl, hout, hen, hsl, hA, hsz, hdf, hN0, hgl⟩ := hfin _ _ _ hI
        rw [selH_late (late := late) (fun x hx hxl => (hlate x hx hxl).1) (fun i hi => by
          obtain ⟨h1, h2⟩ := hfil.1 hi
          rcases hlr i h1 with h3 | h3
          · exact h3.1
          · exact absurd h3 h2)] at hout
        have hout := hout.shrink (hsub Bx hBx)
        have hen1 : EnvRep c g e1 a := ⟨fun t v ht => hen.slot t v (he1s t v ht).1, hen.glob⟩
        have hslr : ∀ x ∈ al, x.j ∉ rem → x.d < a.tmps.size ∧ Rep c x.v .V [a.tmps.getD x.d undef] := fun x hx hxr => by
          rcases List.mem_append.1 hx with h1 | h1
          · exact hsl x h1 fun h2 => hxr (hfil.1 h2).1
          · exact absurd (hall _ (htj x h1)) hxr
        refine wpOp_mono (fun a' w' h => .inr ⟨⟨it.j, hjt, hnd.not_mem_erase⟩, h⟩) (hstep rem it hnd (List.mem_append_right _ hit) _ a c ns (htok it hit) (henvP _ hen1 fun x hx hxl => ?_) (fun i hi => hlr i (List.mem_of_mem_erase hi)) hout hen1 hslr hA hsz hdf hN0 hgl)
        refine hsl x hx fun hxr => ?_
        obtain ⟨h1, h2⟩ := hfil.1 hxr
        rcases hlr _ h1 with h3 | h3
        · unfold nrem at hxl
          rw [memB_ok.2 h3.1] at hxl; cases hxl
        · exact h2 h3
      · have hjf : j ∈ fil rem := hfil.2 ⟨hj, hjt⟩
        have hnt : ∀ i ∈ (mkP plan).map (·.1), i ∉ ts.map (·.1) := fun i hi ht => (htpJ i ht).1 hi
        have hnot : ∀ i ∈ (mkP plan).map (·.1), (i ∉ fil rem ↔ i ∉ rem) := fun i hi => ⟨fun h1 h2 => h1 (hfil.2 ⟨h2, hnt i hi⟩), fun h1 h2 => h1 (hfil.1 h2).1⟩
        have hsubP : ∀ i ∈ fil rem, i ∈ (mkP plan).map (·.1) := fun i hi => by
          obtain ⟨h1, h2⟩ := hfil.1 hi
          rcases List.mem_append.1 (hsubr i h1) with h3 | h3
          · exact h3
          · exact absurd h3 h2
        refine wpOp_mono (fun a' w' hI' => .inl ⟨fun t ht => (hnd.mem_erase_iff).2 ⟨fun e => hjt (e ▸ ht), hall t ht⟩, ?_⟩) (hitems QC (fil rem) (hnd.filter _) hsubP j hjf (fun i hw hi => (hnot i hi).2 (hwj i hw (List.mem_append_left _ hi))) (fun i k hi hir hw hk => (hnot k hk).2 (hdown i k (List.mem_append_left _ hi) ((hnot i hi).1 hir) hw (List.mem_append_left _ hk))) a w hI)
        have : fil (rem.erase j) = (fil rem).erase j := filter_erase.symm
        rw [this]; exact hI'
    · obtain ⟨t0, ht0, ht0r⟩ := hsome
      obtain ⟨hrl, c, ns, rfl, hout, hen, hsl, hA, hsz, hdf, hN0, hgl⟩ := hI
      obtain ⟨it, hit, rfl⟩ : ∃ it ∈ al, it.j = j := by
        have := hsubr j hj
        rw [← halj] at this
        obtain ⟨it, h1, h2⟩ := List.mem_map.1 this
        exact ⟨it, h1, h2⟩
      have hnl : ∀ x ∈ its, nrem late x.j = true → x.j ∉ rem := fun x hx hxl hxr => by
        rcases hrl _ hxr with h3 | h3
        · unfold nrem at hxl
          rw [memB_ok.2 h3.1] at hxl; cases hxl
        · exact (htpJ _ h3).1 (hitP x hx)
      refine wpOp_mono (fun a' w' h => .inr ⟨⟨t0, ht0, fun h1 => ht0r (List.mem_of_mem_erase h1)⟩, h⟩) ?_
      rcases List.mem_append.1 hit with h1 | h1
      · have hjl : it.j ∈ late := by
          rcases hrl _ hj with h3 | h3
          · exact h3.1
          · exact absurd (hitP it h1) (htpJ _ h3).1
        refine hstep rem it hnd hit _ a c ns (hlate it h1 hjl) (henvP _ hen fun x hx hxl => hsl x (List.mem_append_left _ hx) ?_) (fun i hi => hrl i (List.mem_of_mem_erase hi)) hout hen hsl hA hsz hdf hN0 hgl
        unfold lateM at hxl
        rw [Bool.or_eq_true] at hxl
        rcases hxl with hxl | hxl
        · exact hnl x hx hxl
        · obtain ⟨m, hm1, hm2⟩ := maskOf_mem hxl
          exact anc_done (ancM_ok (fun i hi => by rw [tbb_zero] at hi; cases hi) s6) s4 hlt (fun i k hi hir hw hk => hdown i k (List.mem_append_left _ hi) hir hw (List.mem_append_left _ hk)) it.j _ hm1 (fun k hk hkd => hwj k hk (List.mem_append_left _ hkd)) x.j (memB_ok.1 (tbb_bits hm2))
      · exact hstep rem it hnd hit _ a c ns (htok it h1) (henvP _ hen fun x hx hxl => hsl x (List.mem_append_left _ hx) (hnl x hx hxl)) (fun i hi => hrl i (List.mem_of_mem_erase hi)) hout hen hsl hA hsz hdf hN0 hgl
  · have hJ : I2 [] a w := by
      rcases hJ with ⟨hall, _⟩ | ⟨_, h⟩
      · obtain ⟨t, ht⟩ := hne
        cases hall t ht
      · exact h
    obtain ⟨_, c, ns, rfl, hout, hen, hsl, hA, hsz, hdf, hN0, hgl⟩ := hJ
    refine tail_wp hseq (fun s' a' w' hq hs' => hQ _ _ _ _ hq hs') tail _ htops1 s11 a _ ⟨c, ns, rfl, hout, ⟨fun t v ht => ?_, hen.glob⟩, hA, hsz, hdf, hN0, hgl⟩
    have ht : get? (tsE tits ++ (selE allB its ++ e1)) t = some v := ht
    rw [get?_app] at ht
    cases hs : get? (tsE tits) t with
    | some u =>
      rw [hs] at ht
      simp only [Option.some_or, Option.some.injEq] at ht
      subst ht
      obtain ⟨x, hx, rfl, rfl⟩ := tsE_get hs
      exact hsl x (List.mem_append_right _ hx) (by simp)
    | none =>
      rw [hs, Option.none_or] at ht
      exact (henvP allB hen fun x hx _ => hsl x (List.mem_append_left _ hx) (by simp)).slot t v ht
  · constructor
    · intro h; rw [Og.repF] at h; cases h
    · rintro ⟨h1, h2⟩; exact absurd h1 h2
  · rw [Og.repF] at hl; cases hl
  · refine .inl ⟨fun t ht => List.mem_append_right _ ht, ?_⟩
    have : fil ((mkP plan).map (·.1) ++ ts.map (·.1)) = (mkP plan).map (·.1) := by
      show List.filter _ _ = _
      have q1 : List.filter (fun i => !memB i (ts.map (·.1))) ((mkP plan).map (·.1)) = (mkP plan).map (·.1) := List.filter_eq_self.2 fun i hi => by
        cases hm : memB i (ts.map (·.1)) with
        | false => rfl
        | true => exact absurd hi (htpJ i (memB_ok.1 hm)).1
      have q2 : List.filter (fun i => !memB i (ts.map (·.1))) (ts.map (·.1)) = [] := List.filter_eq_nil_iff.2 fun i hi => by
        rw [memB_ok.2 hi]; simp
      rw [List.filter_append, q1, q2, List.append_nil]
    rw [this]
    exact hinit
theorem tits_nil {P : It → Prop} : ∀ it ∈ ([] : List It), P it := fun it h => by cases h
theorem tits_cons {P : It → Prop} {x : It} {r : List It} (h1 : P x) (h2 : ∀ it ∈ r, P it) : ∀ it ∈ x :: r, P it := fun it h => by
  rcases List.mem_cons.1 h with e | h
  · rw [e]; exact h1
  · exact h2 it h
/-- Two moves and what may come late are reckoned. -/
theorem late_endS {F : Fr} {ops : Array Oper} {g e1 h : Asc} {its : List It} {N : Nat} {late : List Nat} {plan : List (Nat × Nat)} {j1 d1 j2 d2 : Nat} {v1 v2 : AV} {tops : List Oper} {K : St → Prop} {eL hL e' : Asc}
    (hE : selEO (nrem late) e1 its some = some eL) (hH : selHO allB h its some = some hL) (hE2 : selEO allB e1 its some = some e') (hl : LateLH F.P ops g e1 hL late plan its its) (h1 : LateOkH F.P ops g eL hL ⟨j1, d1, v1, []⟩) (h2 : LateOkH F.P ops g eL hL ⟨j2, d2, v2, []⟩) (hk : Seq F ops tops ⟨(d1, v1) :: (d2, v2) :: e', hL, g, N⟩ K) :
    ∃ tits : List It, tits.map (fun x => (x.j, x.d)) = [(j1, d1), (j2, d2)] ∧ (∀ it ∈ tits, LateOkH F.P ops g (selE (nrem late) its ++ e1) (selH allB its ++ h) it) ∧
      (∀ it ∈ its, it.j ∈ late → LateOkH F.P ops g (selE (lateM late plan it.j) its ++ e1) (selH allB its ++ h) it) ∧ Seq F ops tops ⟨tsE tits ++ (selE allB its ++ e1), selH allB its ++ h, g, N⟩ K := by
  rw [selEO_eq] at hE hE2
  rw [selHO_eq] at hH
  cases hE; cases hH; cases hE2
  exact ⟨[⟨j1, d1, v1, []⟩, ⟨j2, d2, v2, []⟩], rfl, tits_cons h1 (tits_cons h2 tits_nil), lateLH_ok hl, hk⟩
end Go.V
