/- Flow: balance. -/
import Derived.Test.YtkpidpmlehkjbaaFx
import Derived.Test.YtkpidpmlehkjbaaSh
import Derived.Test.YtkpidpmlehkjbaaWt
set_option linter.unusedSimpArgs false
set_option linter.unusedVariables false
namespace Go.V
def noGotoQ (Q : Exit → St → Prop) : Exit → St → Prop
  | .goto _, _ => False
  | e, s => Q e s
theorem noGoto_ret {Q : Exit → St → Prop} {s : St} (h : Q .ret s) : noGotoQ Q .ret s := h
theorem VC.label {F : Fr} {l : Nat} {Q : Exit → St → Prop} {s : St} (hL : F.L = .plain F.P) (h : Q .normal s) : VC F (.label l) Q s := fun a w hs QC hQ => by
  rw [hL]
  exact wp_label (hQ _ _ _ _ h hs)
theorem VC.scope {F : Fr} {c : Code} {Q : Exit → St → Prop} {s : St} (hL : F.L = .plain F.P) (h : VC F c (noGotoQ Q) s) : VC F (.scope c) Q s := fun a w hs QC hQ => by
  have h1 := h a w hs (Exit.noGoto QC) fun e s' a' w' hq hs' => by
    cases e <;> first | exact hQ _ _ _ _ hq hs' | exact hq.elim
  rw [hL] at h1 ⊢
  exact wp_scope_straight h1
end Go.V
namespace Go.Fl
open Go.V (mFind mSet)
/-- The set that balance gives. -/
def blkL (n : Nat) (l : List Ed) (F : List Int) (v : Nat) : List Int := ((List.range n).filter fun w : Nat => blkS n l F v (w : Int)).map fun w : Nat => (w : Int)
theorem ks_nd {E : List (Int × Nat)} (hk : (E.map (·.1)).Nodup) {done : List Nat} (hd : done.Nodup) (h1 : ∀ i ∈ done, i < E.length) : (done.map fun i => (E.getD i (0, 0)).1).Nodup := by
  rw [List.nodup_iff_pairwise_ne, List.pairwise_map]
  rw [List.nodup_iff_pairwise_ne, List.pairwise_iff_forall_sublist] at hd
  rw [List.pairwise_iff_forall_sublist]
  intro a b hab e
  have ha := h1 a (hab.subset (by simp))
  have hb := h1 b (hab.subset (by simp))
  rw [List.getD_eq_getElem?_getD, List.getD_eq_getElem?_getD, List.getElem?_eq_getElem ha, List.getElem?_eq_getElem hb] at e
  have e2 : (E.map (·.1))[a]'(by rw [List.length_map]; exact ha) = (E.map (·.1))[b]'(by rw [List.length_map]; exact hb) := by rw [List.getElem_map, List.getElem_map]; exact e
  exact hd hab ((List.getElem_inj hk).1 e2)
theorem ks_mem {E : List (Int × Nat)} {done : List Nat} (h1 : ∀ i ∈ done, i < E.length) (h2 : ∀ i, i < E.length → i ∈ done) (w : Int) : w ∈ (done.map fun i => (E.getD i (0, 0)).1) ↔ w ∈ E.map (·.1) := by
  rw [List.mem_map, List.mem_map]
  constructor
  · rintro ⟨i, hi, rfl⟩
    refine ⟨E.getD i (0, 0), ?_, rfl⟩
    rw [List.getD_eq_getElem?_getD, List.getElem?_eq_getElem (h1 i hi)]
    exact List.getElem_mem _
  · rintro ⟨p, hp, rfl⟩
    obtain ⟨i, hi, rfl⟩ := List.getElem_of_mem hp
    exact ⟨i, h2 i hi, by rw [List.getD_eq_getElem?_getD, List.getElem?_eq_getElem hi]; rfl⟩
theorem done_len {m : Nat} {done : List Nat} (hd : done.Nodup) (h1 : ∀ i ∈ done, i < m) : done.length ≤ m := by
  have := nd_len (n := m) (K := done.map fun i : Nat => (i : Int)) (by
    rw [List.nodup_iff_pairwise_ne, List.pairwise_map]
    rw [List.nodup_iff_pairwise_ne] at hd
    exact hd.imp fun h e => h (by omega)) (fun w hw => by
    obtain ⟨i, hi, rfl⟩ := List.mem_map.1 hw
    have := h1 i hi
    omega)
  rwa [List.length_map] at this
theorem blk_srt {n : Nat} {l : List Ed} {F : List Int} {v : Nat} (hn : nodes n l) (hv : v < n) {ks : List Int} (hnd : ks.Nodup) (hm : ∀ w : Int, w ∈ ks ↔ w ∈ (reach n l F v).map (·.1)) : Go.V.srt ((v : Int) :: ks) = blkL n l F v := by
  have hR := reach_ok (F := F) (z := (v : Int)) (by omega) hn
  obtain ⟨q1, q2, _⟩ := hR.r.way
  have hlen := (hR.r.len hn).2
  have p2 : (blkL n l F v).Pairwise (· < ·) := by
    unfold blkL
    exact (List.pairwise_lt_range.filter _).map _ fun a b h => by omega
  have p1 : (Go.V.srt ((v : Int) :: ks)).Pairwise (· ≤ ·) := by
    have := List.pairwise_mergeSort (le := fun x y : Int => decide (x ≤ y)) (fun a b c h1 h2 => decide_eq_true (Int.le_trans (of_decide_eq_true h1) (of_decide_eq_true h2))) (fun a b => by rw [Bool.or_eq_true, decide_eq_true_eq, decide_eq_true_eq]; omega) ((v : Int) :: ks)
    exact this.imp fun h => of_decide_eq_true h
  have hS : ∀ w : Int, blkS n l F v w = true ↔ w = v ∨ w ∈ (reach n l F v).map (·.1) := fun w => by
    rw [blkS, Bool.or_eq_true, decide_eq_true_eq]
    by_cases hm : w ∈ (reach n l F v).map (·.1)
    · have : (mFind (reach n l F v) w).isSome = true := by
        cases hf : mFind (reach n l F v) w with
        | none => exact absurd hm (mf_none.1 hf)
        | some x => rfl
      simp only [hm, this]
    · rw [mf_none.2 hm]; simp only [hm, Option.isSome_none, Bool.false_eq_true]
  refine List.Perm.eq_of_pairwise (le := (· ≤ ·)) (fun a b _ _ h1 h2 => Int.le_antisymm h1 h2) p1 (p2.imp fun h => Int.le_of_lt h) ((List.mergeSort_perm _ _).trans ((List.perm_ext_iff_of_nodup ?_ ?_).2 fun w => ?_))
  · rw [List.nodup_cons]
    exact ⟨fun h => q1 ((hm _).1 h), hnd⟩
  · rw [List.nodup_iff_pairwise_ne]
    exact p2.imp fun h => by omega
  · rw [List.mem_cons, hm]
    constructor
    · intro h
      have hw : 0 ≤ w ∧ w < n := by
        rcases h with rfl | h
        · omega
        · exact hlen w h
      refine List.mem_map.2 ⟨w.toNat, List.mem_filter.2 ⟨List.mem_range.2 (by omega), ?_⟩, by omega⟩
      rw [Int.toNat_of_nonneg hw.1]
      exact (hS w).2 h
    · intro h
      obtain ⟨u, hu, rfl⟩ := List.mem_map.1 h
      exact (hS _).1 (List.mem_filter.1 hu).2
end Go.Fl
namespace Go.Proofs.Ytkpidpmlehkjbaa
open Go.V Go.RowKit Go.L Go.Lx Go.Fl Go.Shelf
set_option maxRecDepth 10000
set_option maxHeartbeats 4000000
theorem sortI_ok (l : List Int) (hl : l.length < 4611686018427387904) : Ok Try.prog 46 [] [(0, intO l)] (.pair (.sl 0 [] 1 0 l.length) .nul) (fun r h' => r = .tup .nul ∧ h' = [(0, intO (srt l))]) :=
  sort_ok (fun blk off cap zs w h1 h2 h3 => AnyM.slices_Sort_int sort46 blk off cap zs w h1 h2 h3) (fun p cap w => AnyM.slices_Sort_int_none sort46 p cap w) l hl
abbrev exO (n : Nat) (l : List Ed) (F : List Int) : AV := .arr n 1 (fun i => .int .i64 ((bals n l F).getD i 0))
abbrev blS1 (n : Nat) (l : List Ed) (F : List Int) (v : Nat) : St := ⟨[(16, .int .i64 (v : Nat)), (15, .int .i64 (n : Nat)), (14, .sl 2 [] 1 0 n), (3, .sl 2 [] 1 0 n), (0, .ptr 0 [])], (2, exO n l F) :: nH n l F, [], 3⟩
abbrev blS2 (n : Nat) (l : List Ed) (F : List Int) (v w : Nat) : St := ⟨[(30, .int .i64 (w : Nat)), (29, .int .i64 (n : Nat)), (6, .mp 3), (5, .int .i64 (bal l F v)), (4, .int .i64 (v : Nat)), (3, .sl 2 [] 1 0 n), (0, .ptr 0 [])], (3, entO l (reach n l F v)) :: (2, exO n l F) :: nH n l F, [], 4⟩
/-- What balance gives, and what it leaves. -/
def blV (n : Nat) (l : List Ed) : List Int × Option Nat → AV
  | (_, none) => .val (.slice none 0 0)
  | (F, some v) => .sl 4 [] 1 0 (blkL n l F v).length
def blR (n : Nat) (l : List Ed) : List Int × Option Nat → Asc
  | (F, none) => nH n l F
  | (F, some v) => (4, liO (blkL n l F v)) :: nH n l F
abbrev blS (v : Nat) (E : List (Int × Nat)) (done : List Nat) : List Int := (v : Int) :: done.map fun i => (E.getD i (0, 0)).1
abbrev blS3 (n : Nat) (l : List Ed) (F : List Int) (v bm r : Nat) (es : Array MapEntry) (clock : Nat) (done : List Nat) : St := ⟨[(63, .ptr 5 []), (10, .sl 4 [] 1 0 (blS v (reach n l F v) done).length), (0, .ptr 0 [])], (5, .ob r (itO bm es clock done)) :: (3, .ob bm (.map es clock)) :: (4, liO (blS v (reach n l F v) done)) :: nH n l F, [], 6⟩
theorem balance_ok {n : Nat} {l : List Ed} {F : List Int} (ok : NetOk n l) (hF : inB l F) (q : Nat) (hq : exc n l F < q) (res : List Int × Option Nat) (hb : bln n l q F = res) : Ok Try.prog 31 [] (nH n l F) (.pair (.ptr 0 []) .nul) (fun r h' => r = blV n l res ∧ h' = blR n l res) := by
  have hn := ok.nodes
  have hn64 := ok.n64
  have hl256 := ok.l256
  refine Ok.of_vcC tt_ok Try.func31 rfl rfl (by show 1 ≤ _; decide) 2 (hlt_ok (by rfl)) fun c0 => ?_
  repeat' (first | (refine SS_ ?_) | (refine VC.scope (by rfl) ?_) | (refine VC.label (by rfl) ?_) | fail)
  refine VC.loop (fun k : Nat × List Int => ⟨[(0, .ptr 0 [])], nH n l k.2, [], 2⟩) (fun k => inB l k.2 ∧ exc n l k.2 < k.1 ∧ bln n l k.1 k.2 = res) (fun k => k.1) (q, F) ⟨hF, hq, hb⟩ (Sim.less [] (by rfl) R_ R_) fun k hk => ?_
  obtain ⟨q, F⟩ := k
  obtain ⟨hF, hq, hb⟩ := hk
  replace hF : inB l F := hF
  replace hq : exc n l F < q := hq
  replace hb : bln n l q F = res := hb
  have hfl := ok.flow hF
  have hlen := (inB_iff.1 hF).1
  obtain ⟨q, rfl⟩ : ∃ q', q = q' + 1 := ⟨q - 1, by have := exc_nn n l F; omega⟩
  have c1 := excess_ok ok hF
  refine VC.conv (s' := ⟨[(0, .ptr 0 [])], nH n l F, [], 2⟩) (fun a w h => h) ?_
  repeat' (first | (refine SS_ ?_) | (refine Seq.callo false [] [] (.sl 2 [] 1 0 n) ((2, exO n l F) :: nH n l F) 3 (c1) Try.func36 GOk.nil subG.nil (by rfl) (by rfl) rfl rfl rfl rfl rfl (by rfl) rfl (by rfl) (by rfl) (by rfl) (by rfl) VW_ NI_ R_ (noFrL_ok NI_) BK_ ?_) | fail)
  refine VC.loop (fun v : Nat => blS1 n l F v) (fun v => v ≤ n ∧ ∀ u, u < v → ¬ 0 < bal l F (u : Nat)) (fun v => n - v) 0 ⟨by omega, fun u hu => by omega⟩ (Sim.less [] (by rfl) R_ R_) fun v hv => ?_
  obtain ⟨hv, hall⟩ := hv
  have hbd : ∀ u : Nat, u < n → -257000 ≤ bal l F u ∧ bal l F u ≤ 257000 := fun u hu => by
    have := bak_bd hlen hfl (u : Nat) l.length (Nat.le_refl _)
    rw [bak_all hlen] at this
    omega
  have hex : ∀ u : Nat, u < n → (bals n l F).getD (0 + ((u : Nat) : Int).toNat) 0 = bal l F u := fun u hu => by rw [Int.toNat_natCast, Nat.zero_add, bals_get hu]
  by_cases hvn : v < n
  · have e0 := hex v hvn
    have b0 := hbd v hvn
    by_cases hp : 0 < bal l F v
    · have hsrc : src n l F = some v := find_range_of hvn (decide_eq_true hp) fun u hu => decide_eq_false (hall u hu)
      have c2 := reach_walk ok hF v hvn
      repeat' (first | (refine SS_ ?_) | (refine Seq.callo false [(3, 2)] [(3, 2)] (.mp 3) ((3, entO l (reach n l F v)) :: nH n l F) 4 (c2) Try.func45 GOk.nil subG.nil (by rfl) (by rfl) rfl rfl rfl rfl rfl (by rfl) rfl (by rfl) (by rfl) (by rfl) (by rfl) VW_ NI_ R_ (noFrL_ok NI_) BK_ ?_) | (refine VC.litT (by rfl) LTR_ ?_) | (refine VC.litF (by rfl) LFA_ ?_) | fail)
      refine VC.loop (fun w : Nat => blS2 n l F v w) (fun w => w ≤ n ∧ ∀ u, u < w → ¬ ((mFind (reach n l F v) ((u : Nat) : Int)).isSome = true ∧ bal l F (u : Nat) < 0)) (fun w => n - w) 0 ⟨by omega, fun u hu => by omega⟩ (by
        exact (Sim.less [] (by rfl) R_ R_)) fun w hw => ?_
      obtain ⟨hw, hno⟩ := hw
      by_cases hwn : w < n
      · have e1 := hex w hwn
        have b1 := hbd w hwn
        cases hf : mFind (reach n l F v) ((w : Nat) : Int) with
        | none =>
          repeat' (first | (refine SS_ ?_) | (refine Seq.val (look2N_ok (K := KI) (V := arcA l) (l := reach n l F v) (k := ((w : Nat) : Int)) tt_ok (by rfl) u_ent keyI (z_arc _ rfl) (by rfl) (by rfl) (by rfl) hf rfl) (by rfl) (by rfl) ?_) | (refine VC.litT (by rfl) LTR_ ?_) | (refine VC.litF (by rfl) LFA_ ?_) | fail)
          refine ⟨w + 1, ⟨by omega, fun u hu => ?_⟩, by omega, ?_⟩
          · by_cases e : u = w
            · subst e; rw [hf]; simp
            · exact hno u (by omega)
          · exact (Sim.less [] (by rfl) R_ R_)
        | some x =>
          by_cases hneg : bal l F w < 0
          · have hsnk : snk n l F v = some w := find_range_of hwn (by show ((mFind (reach n l F v) (w : Int)).isSome && decide (bal l F w < 0)) = true; rw [hf, decide_eq_true hneg]; rfl) fun u hu => by
              have := hno u hu
              show ((mFind (reach n l F v) (u : Int)).isSome && decide (bal l F u < 0)) = false
              cases h1 : (mFind (reach n l F v) (u : Int)).isSome
              · rfl
              · rw [h1] at this
                rw [Bool.true_and]
                exact decide_eq_false fun h => this ⟨rfl, h⟩
            rw [bln_a hsrc hsnk] at hb
            obtain ⟨_, _, p1, p2, p3, p4, p5, p6, p7⟩ := bpush hn hF hsrc hsnk
            have hr := room_le (l := l) (F := F) (P := bwy n l F v w) (m := min (bal l F v) (-bal l F w))
            have hbmo : bmo n l F v w = room l F (min (bal l F v) (-bal l F w)) (bwy n l F v w) := rfl
            have c3 := push_ok ok hF (reach n l F v) v w (min (bal l F v) (-bal l F w)) (bwy n l F v w) (by omega) p1 (fun y hy => (p2 y hy).1) p3
            rw [← hbmo] at c3
            generalize pus (bmo n l F v w) F (bwy n l F v w) = F2 at *
            rw [show min (bal l F v) (-bal l F w) = min (bal l F v) (0 - (bals n l F).getD (0 + ((w : Nat) : Int).toNat) 0) by rw [e1, Int.zero_sub]] at c3
            repeat' (first | (refine SS_ ?_) | (refine Seq.val (look2S_ok (K := KI) (V := arcA l) (l := reach n l F v) (k := ((w : Nat) : Int)) (u := x) tt_ok (by rfl) u_ent keyI (z_arc _ rfl) (by rfl) (by rfl) (by rfl) hf) (by rfl) (by rfl) ?_) | (refine Seq.val (min_ok (by rfl) (by rfl)) (by rfl) (by rfl) ?_) | (refine Seq.callo false [(2, 3)] [(3, 2)] (.int .i64 (bmo n l F v w)) ([(0, netA n l), (1, liO F2), (3, entO l (reach n l F v))]) 5 (c3) Try.func33 GOk.nil subG.nil (by rfl) (by rfl) rfl rfl rfl rfl rfl (by rfl) rfl (by rfl) (by rfl) (by rfl) (by rfl) VW_ NI_ R_ (noFrL_ok NI_) BK_ ?_) | (refine VC.litT (by rfl) LTR_ ?_) | fail)
            refine ⟨(q, F2), ⟨p6, by show exc n l F2 < (q : Int); omega, hb⟩, by show q < q + 1; omega, ?_⟩
            exact (Sim.less [] (by rfl) R_ R_)
          · repeat' (first | (refine SS_ ?_) | (refine Seq.val (look2S_ok (K := KI) (V := arcA l) (l := reach n l F v) (k := ((w : Nat) : Int)) (u := x) tt_ok (by rfl) u_ent keyI (z_arc _ rfl) (by rfl) (by rfl) (by rfl) hf) (by rfl) (by rfl) ?_) | (refine VC.litT (by rfl) LTR_ ?_) | (refine VC.litF (by rfl) LFA_ ?_) | fail)
            refine ⟨w + 1, ⟨by omega, fun u hu => ?_⟩, by omega, ?_⟩
            · by_cases e : u = w
              · subst e; exact fun h => hneg h.2
              · exact hno u (by omega)
            · exact (Sim.less [] (by rfl) R_ R_)
      · have hsnk : snk n l F v = none := find_range_no fun u hu => by
          have := hno u (by omega)
          show ((mFind (reach n l F v) (u : Int)).isSome && decide (bal l F u < 0)) = false
          cases h1 : (mFind (reach n l F v) (u : Int)).isSome
          · rfl
          · rw [h1] at this
            rw [Bool.true_and]
            exact decide_eq_false fun h => this ⟨rfl, h⟩
        rw [bln_b hsrc hsnk] at hb
        subst hb
        repeat' (first | (refine SS_ ?_) | (refine VC.litF (by rfl) LFA_ ?_) | fail)
        refine Seq.rangeM (K := KI) (VA := arcA l) (kv := kvI) (d0 := (0, 0)) (l := reach n l F v) u_ent keyI (by rfl) (by rfl) (by rfl) (by rfl) (fun bm r es clock hm => ?_)
        repeat' (first | (refine SS_ ?_) | fail)
        refine VC.loop (fun done : List Nat => blS3 n l F v bm r es clock done) (fun done => done.Nodup ∧ ∀ i ∈ done, i < (reach n l F v).length) (fun done => (reach n l F v).length - done.length) [] ⟨List.nodup_nil, fun i hi => by simp at hi⟩ (by
          (refine Sim.less [] (by rfl) ?_ ?_ <;> (repeat' (first | (exact EnvLe.nil) | (exact HeapLe.nil) | (with_reducible apply EnvLe.cons) | (with_reducible apply HeapLe.cons) | ((with_reducible refine RelA.int ?_; first | (refine Keep.mk ?_; first | with_reducible rfl | omega | decide) | skip)) | (exact rfl) | (exact ⟨rfl, rfl⟩) | ((with_reducible refine RelA.rsl ?_; intro i hi)) | ((with_reducible refine RelA.arr ?_; intro i hi)) | (with_reducible refine RelA.pair ?_ ?_) | ((refine RelA.arr ?_; intro i hi)) | fail)) <;> (try with_reducible refine Keep.mk ?_))
          have : i = 0 := by have : i < 1 := hi; omega
          subst this
          exact NoId.self NI_) fun done hd => ?_
        obtain ⟨hd1, hd2⟩ := hd
        have hdl := done_len hd1 hd2
        have hRO := reach_ok (F := F) (z := (v : Int)) (by omega) hn
        have hE64 := (hRO.r.len hn).1
        have hSl : (blS v (reach n l F v) done).length = done.length + 1 := by simp
        repeat' (first | (refine SS_ ?_) | (refine Seq.nextM (id := 3) (K := KI) (kv := kvI) hm (fun c k v => keyI.rep c k v) (by rfl) (by rfl) (by rfl) hd2 (by rfl) (by rfl) (fun hall2 => ?_) (fun i hi hni => ?_)) | (refine Seq.val (entryM_ok (id := 3) (K := KI) (kv := kvI) hm (fun c k v => keyI.rep c k v) (by rfl) (by rfl) (by rfl) hi) (by rfl) (by rfl) ?_) | (refine VC.litT (by rfl) LTR_ ?_) | (refine VC.litF (by rfl) LFA_ ?_) | fail)
        · have hbl := blk_srt (F := F) hn hvn (ks_nd hRO.r.way.2.1 hd1 hd2) (fun w => ks_mem hd2 hall2 w)
          have hbn : (blkL n l F v).length = (blS v (reach n l F v) done).length := by rw [← hbl, srt_len]
          have cs := sortI_ok (blS v (reach n l F v) done) (by omega)
          rw [hbl] at cs
          generalize blS v (reach n l F v) done = S at *
          repeat' (first | (refine SS_ ?_) | (refine Seq.callo false [(0, 4)] [(4, 0)] (.tup .nul) ([(4, liO (blkL n l F v))]) 6 (cs) Try.func46 GOk.nil subG.nil (by rfl) (by rfl) rfl rfl rfl rfl rfl (by rfl) rfl (by rfl) (by rfl) (by rfl) (by rfl) VW_ NI_ R_ (noFrL_ok NI_) BK_ ?_) | fail)
          refine noGoto_ret ?_
          refine retC_mk ([(2, .sl 4 [] 1 0 S.length)]) ((4, liO (blkL n l F v)) :: nH n l F) 6 ?_ (retQ_ok (by rfl) ((4, liO (blkL n l F v)) :: nH n l F) (fun i av h => h) ⟨?_, ?_⟩)
          · exact (Sim.less [] (by rfl) R_ R_)
          · show AV.sl 4 [] 1 0 S.length = .sl 4 [] 1 0 (blkL n l F v).length
            rw [hbn]
          · rfl
        · have hS2 : blS v (reach n l F v) (done ++ [i]) = blS v (reach n l F v) done ++ [((reach n l F v).getD i (0, 0)).1] := by simp [blS]
          have hnd2 : (done ++ [i]).Nodup := by
            rw [List.nodup_append]
            refine ⟨hd1, by simp, fun a ha b hb e => ?_⟩
            have : b = i := by simpa using hb
            subst this; subst e
            exact hni ha
          have hlt2 : ∀ j ∈ done ++ [i], j < (reach n l F v).length := fun j hj => by
            rcases List.mem_append.1 hj with hj | hj
            · exact hd2 j hj
            · have : j = i := by simpa using hj
              rw [this]; exact hi
          have hl2 := done_len hnd2 hlt2
          rw [List.length_append, List.length_singleton] at hl2
          refine ⟨done ++ [i], ⟨hnd2, hlt2⟩, by rw [List.length_append, List.length_singleton]; omega, ?_⟩
          show ∀ a w, _ → Sim _ ⟨[(63, .ptr 5 []), (10, .sl 4 [] 1 0 (blS v (reach n l F v) (done ++ [i])).length), (0, .ptr 0 [])], (5, .ob r (itO bm es clock (done ++ [i]))) :: (3, .ob bm (.map es clock)) :: (4, .arr (blS v (reach n l F v) (done ++ [i])).length 1 (fun j => .int .i64 ((blS v (reach n l F v) (done ++ [i])).getD j 0))) :: nH n l F, [], 6⟩ a w
          rw [hS2, List.length_append, List.length_singleton]
          (refine Sim.less [(4, 7)] (by rfl) ?_ ?_ <;> (repeat' (first | (exact EnvLe.nil) | (exact HeapLe.nil) | (with_reducible apply EnvLe.cons) | (with_reducible apply HeapLe.cons) | ((with_reducible refine RelA.int ?_; first | (refine Keep.mk ?_; first | with_reducible rfl | omega | decide) | skip)) | (exact rfl) | (exact ⟨rfl, rfl⟩) | ((with_reducible refine RelA.rsl ?_; intro i hi)) | ((with_reducible refine RelA.arr ?_; intro i hi)) | (with_reducible refine RelA.pair ?_ ?_) | ((refine RelA.arr ?_; intro i hi)) | fail)) <;> (try with_reducible refine Keep.mk ?_))
          exact rel_snocG (G := fun q : Int => .int .i64 q) (fun e => NI_) (by assumption) (by rfl)
    · repeat' (first | (refine SS_ ?_) | (refine VC.litT (by rfl) LTR_ ?_) | fail)
      refine ⟨v + 1, ⟨by omega, fun u hu => ?_⟩, by omega, ?_⟩
      · by_cases e : u = v
        · subst e; exact hp
        · exact hall u (by omega)
      · exact (Sim.less [] (by rfl) R_ R_)
  · have hsrc : src n l F = none := find_range_no fun u hu => decide_eq_false (hall u (by omega))
    rw [bln_c hsrc] at hb
    subst hb
    repeat' (first | (refine SS_ ?_) | (refine VC.litF (by rfl) LFA_ ?_) | fail)
    refine noGoto_ret ?_
    (refine retC_mk ([(2, .val (.slice none 0 0))]) (nH n l F) 3 (Sim.less [] (by rfl) R_ R_) (retQ_ok (by rfl) (nH n l F) (fun i av h => h) ⟨?_, ?_⟩)) <;> rfl
end Go.Proofs.Ytkpidpmlehkjbaa
