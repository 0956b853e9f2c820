
/- Drawn regions whose tail waits by way of its own operations. -/
import Derived.Test.YtkhlmicogdjmlaaFe
set_option linter.unusedSimpArgs false
set_option linter.unusedVariables false
namespace Go.V
open Go.RowKit Go.L Go.Chain
section
variable {P : Program} {ops : Array Oper} {Q : Exit → Act → World → Prop}
theorem og3 {I : List Nat → Act → World → Prop} {ds : List Nat} {m : Nat} (h1 : ds.Nodup) (hlt : ∀ j ∈ ds, j < ops.size) (hac : Og.acyc ops = true)
    (htail : ∀ j, j < ops.size → j ∈ ds ∨ ∀ i ∈ ds, ∃ L n, Og.cov ops L n j i = true)
    (items : ∀ rem : List Nat, rem.Nodup → (∀ i ∈ rem, i ∈ ds) → ∀ j ∈ rem, (∀ i, waits .any ops j i = true → i ∈ ds → i ∉ rem) → (∀ i k, i ∈ ds → i ∉ rem → waits .any ops i k = true → k ∈ ds → k ∉ rem) → ∀ a w, I rem a w → wpOp P ops Q j (fun a' w' => I (rem.erase j) a' w') a w)
    (rest : ∀ a w, I [] a w → wpAny P .any ops Q m (afterL ops ds) a w) :
    ∀ (k : Nat) (rem : List Nat) (listed : Array Bool) (a : Act) (w : World), rem.length = k → rem.Nodup → (∀ i ∈ rem, i ∈ ds) → listed.size = ops.size →
      (∀ i, i < ops.size → (listed.getD i false = true ↔ i ∈ ds ∧ i ∉ rem)) → Og.dclosed ops listed → I rem a w → wpAny P .any ops Q (m + k) listed a w := by
  intro k
  induction k with
  | zero =>
    intro rem listed a w hk _ _ hsz hiff _ hI
    have hrem : rem = [] := List.length_eq_zero_iff.1 hk
    subst hrem
    have : listed = afterL ops ds := by
      refine Array.ext (by simp [afterL, hsz]) ?_
      intro i hi hi'
      have := hiff i (by omega)
      have hin : (afterL ops ds)[i] = ds.contains i := by simp [afterL]
      rw [hin, Bool.eq_iff_iff]
      have hge : listed.getD i false = listed[i] := by simp [hi]
      rw [hge] at this
      rw [this]
      simp
    rw [this]
    exact rest a w hI
  | succ k ih =>
    intro rem listed a w hk hnd hsub hsz hiff hdc hI
    obtain ⟨p0, hp0⟩ : ∃ p, p ∈ rem := by
      cases rem with
      | nil => cases hk
      | cons p _ => exact ⟨p, List.mem_cons_self⟩
    have hun : ∀ p ∈ rem, listed.getD p false = false := by
      intro p hp
      cases hv : listed.getD p false with
      | false => rfl
      | true => exact absurd hp ((hiff p (hlt p (hsub p hp))).1 hv).2
    refine ⟨fun hr => absurd hr (Og.progress hsz hac p0 (hlt p0 (hsub p0 hp0)) (hun p0 hp0)), fun j hj => ?_⟩
    have hjs : j < ops.size := by
      obtain ⟨_, o, ho, _⟩ := mem_ready.1 hj
      exact (Array.getElem?_eq_some_iff.1 ho).1
    rcases htail j hjs with hp | hc
    · have hpr : j ∈ rem := by
        refine Classical.byContradiction fun hn => ?_
        have ht := (hiff j hjs).2 ⟨hp, hn⟩
        have hf := (mem_ready.1 hj).1
        rw [getD_false_of_true hf] at ht
        cases ht
      refine wpOp_mono ?_ (items rem hnd hsub j hpr (fun i hw hi => ((hiff i (hlt i hi)).1 (Og.waits_listed hj hw)).2) (fun i k hi hir hw hkd => ((hiff k (hlt k hkd)).1 (dclosed_waits hdc ((hiff i (hlt i hi)).2 ⟨hi, hir⟩) hw)).2) a w hI)
      intro a' w' hI'
      refine ih (rem.erase j) (listed.setIfInBounds j true) a' w' ?_ (hnd.erase j) (fun q hq => hsub q (List.mem_of_mem_erase hq)) (by simpa using hsz) ?_ (Og.dclosed_set hdc hj) hI'
      · rw [List.length_erase_of_mem hpr, hk]; rfl
      · intro i hi
        by_cases hpi : j = i
        · subst hpi
          constructor
          · intro _; exact ⟨hp, hnd.not_mem_erase⟩
          · intro _
            have h' : j < listed.size := by omega
            simp [h']
        · rw [getD_set_ne false hpi, hiff i hi]
          constructor
          · rintro ⟨h2, h3⟩; exact ⟨h2, fun h => h3 (List.mem_of_mem_erase h)⟩
          · rintro ⟨h2, h3⟩
            exact ⟨h2, fun h => h3 ((hnd.mem_erase_iff).2 ⟨fun e => hpi e.symm, h⟩)⟩
    · obtain ⟨L, n, hc⟩ := hc p0 (hsub p0 hp0)
      have := Og.cov_listed hdc hj _ _ hc
      rw [hun p0 hp0] at this
      cases this
end
def drawCB (ops : Array Oper) (n : Nat) (plan : List (Nat × Nat)) (tail : List Nat) : Bool :=
  nodupB ((mkP plan).map (·.1)) && (((mkP plan).map (·.1)).all (fun j => Nat.blt j ops.size && (match dstOf ops j with | some d => Nat.blt d n | none => false)) && (nodupB (dstsOf ops (mkP plan)) && (Og.acyc ops && (((List.range ops.size).all fun j => memB j ((mkP plan).map (·.1)) || ((mkP plan).map (·.1)).all fun i => Og.cov ops ((mkP plan).map (·.1) ++ tail) ((mkP plan).map (·.1)).length j i) &&
    (ancM ops plan plan 0 && (tailB ops tail (afterL ops ((mkP plan).map (·.1))) && Nat.beq (((mkP plan).map (·.1)).length + tail.length) ops.size))))))
theorem VC.drawc {F : Fr} {id : Nat} {l : List Oper} {e h g : Asc} {N : Nat} {Q : Exit → St → Prop} (plan : List (Nat × Nat)) (tail : List Nat) (hm : F.P.follows .mixedOrders = true) (hst : (drawCB l.toArray F.n plan tail && freeB (keys e) (dstsOf l.toArray (mkP plan))) = true)
    {tops : List Oper} (htops : topsO l.toArray tail some = some tops)
    (hD : DSeq F.P l.toArray g e h (mkP plan) [] N [] (fun its N' B => Seq F l.toArray tops (V.drawn its e (B ++ h) g N') (Q .normal))) : VC F (.region id l.toArray true) Q ⟨e, h, g, N⟩ := by
  rw [Bool.and_eq_true] at hst
  obtain ⟨hst, hfr⟩ := hst
  simp only [drawCB, Bool.and_eq_true] at hst
  obtain ⟨s1, s2, s3, s4, s5, s6, s7, s8⟩ := hst
  have he0 : dropO e (dstsOf l.toArray (mkP plan)) some = some e := by rw [dropO_eq, drop_free hfr]
  have s6 : ancB l.toArray (mkP plan) (mkP plan) [] = true := ancM_ok (fun i hi => by rw [tbb_zero] at hi; cases hi) s6
  obtain ⟨tops1, htops1, htops2⟩ := topsO_ok htops
  cases htops2
  have hP := nodupB_ok s1
  have s8 := Nat.eq_of_beq_eq_true s8
  intro a w hsim
  obtain ⟨its, N', B', I, hseq, hmap, hBs, hdj, hitems, hinit, hfin⟩ := drawn_core (B := []) (mkP plan) (fun i av hi => by cases hi) s1 s2 s3 s4 s6 he0 hD a w hsim
  have hB0 : B' = [] := by
    cases B' with
    | nil => rfl
    | cons p r =>
      obtain ⟨k, v⟩ := p
      have := hBs k v (by rw [get?_cons, if_pos rfl])
      cases this
  subst hB0
  intro QC hQ
  refine F.L.any hm (Og.acyc_def s4) ?_
  have hlt : ∀ j ∈ (mkP plan).map (·.1), j < l.toArray.size := fun j hj => by
    have := List.all_eq_true.1 s2 j hj
    simp only [Bool.and_eq_true] at this
    simpa [Nat.blt_eq] using this.1
  have hsz0 : l.toArray.size = tail.length + ((mkP plan).map (·.1)).length := by omega
  suffices hgoal : wpAny F.P .any l.toArray QC (tail.length + ((mkP plan).map (·.1)).length) (Array.replicate l.toArray.size false) a { w with drawn := w.drawn + 1 } by rw [hsz0.symm] at hgoal; exact hgoal
  refine og3 (I := I) (ds := (mkP plan).map (·.1)) hP hlt s4 (fun j hj => ?_) (hitems QC) (fun a w hI => ?_) _ ((mkP plan).map (·.1)) (Array.replicate l.toArray.size false) a _ rfl hP (fun i hi => hi) (by simp) (fun i hi => ?_) (fun j o ho hl => ?_) hinit
  · have := List.all_eq_true.1 s5 j (List.mem_range.2 hj)
    rw [Bool.or_eq_true] at this
    exact this.imp memB_ok.1 fun h1 i hi => ⟨_, _, List.all_eq_true.1 h1 i hi⟩
  · obtain ⟨c, ns, Bx, hBx, rfl, hout, hen, hsl, hA, hsz, hdf, hN0, hgl⟩ := hfin _ _ _ hI
    have hBx0 : Bx = [] := by
      cases Bx with
      | nil => rfl
      | cons p r =>
        obtain ⟨k, v⟩ := p
        have := hBx k v (by rw [get?_cons, if_pos rfl])
        cases this
    subst hBx0
    refine tail_wp hseq (fun s' a' w' hq hs' => hQ _ _ _ _ hq hs') tail _ htops1 s7 a _ ⟨c, ns, rfl, hout, ⟨fun t v ht => ?_, hen.glob⟩, hA, hsz, hdf, hN0, hgl⟩
    have ht : get? (selE allB its ++ e) t = some v := ht
    rw [get?_app] at ht
    cases hs : get? (selE allB its) t with
    | none => rw [hs] at ht; exact hen.slot t v ht
    | some u =>
      rw [hs] at ht
      simp only [Option.some_or, Option.some.injEq] at ht
      subst ht
      obtain ⟨x, hx, _, rfl, rfl⟩ := selE_get hs
      exact hsl x hx (by simp)
  · constructor
    · intro h; rw [Og.repF] at h; cases h
    · rintro ⟨h1, h2⟩; exact absurd h1 h2
  · rw [Og.repF] at hl; cases hl
end Go.V
