/- Flow: what Least gives, in one sentence; networks side by side, with less room, with other costs. Plain. Flow: FlowApart. -/
import Derived.Test.YtkpidpmlehkjbaaZn
import Derived.Test.YtkpidpmlehkjbaaWj
set_option linter.unusedSimpArgs false
set_option linter.unusedVariables false
namespace Go.Fl
/-- What Least gives for a network. -/
def Sums (n : Nat) (l : List Ed) (R : R4) : Prop :=
  (R.e = 0 ∧ R.S = [] ∧ inB l R.F ∧ circ n l R.F ∧ chkE n l R.F R.L = 0 ∧ ∀ G, inB l G → circ n l G → cost l R.F ≤ cost l G) ∨
  (R.e = 14 ∧ R.F = [] ∧ R.L = [] ∧ cutE n l R.S = 0 ∧ ∀ G, inB l G → circ n l G → False)
theorem lst_sums {n : Nat} {l : List Ed} (ok : NetOk n l) (hl : l.length ≤ 256) : Sums n l (lst n l) := by
  have hg := given_of ok hl
  rcases lst_cases ok hl hg with ⟨F, h1, h2, h3, h4⟩ | ⟨F, v, h1, h2, h3⟩
  · rw [h1]; exact .inl ⟨rfl, rfl, h2, h3, lst_chk ok hg h2 h3 h4, fun G => lst_least ok.nodes h2 h3 h4⟩
  · rw [h1]; exact .inr ⟨rfl, rfl, rfl, lst_cut ok hg h3, fun G => blocked ok.nodes h3⟩
theorem inB_len {l : List Ed} {F : List Int} (h : inB l F) : F.length = l.length := (inB_iff.1 h).1
theorem bal_map {f : Ed → Ed} (hf : ∀ e, (f e).a = e.a ∧ (f e).b = e.b) (v : Int) : ∀ (l : List Ed) (F : List Int), bal (l.map f) F v = bal l F v
  | [], _ => rfl
  | _ :: _, [] => rfl
  | e :: l, g :: F => by
    rw [List.map_cons, bal, bal, bal_map hf v l F, (hf e).1, (hf e).2]
theorem inB_map {f : Ed → Ed} (hf : ∀ e, (f e).lo = e.lo ∧ (f e).hi = e.hi) : ∀ (l : List Ed) (F : List Int), inB (l.map f) F ↔ inB l F
  | [], _ => Iff.rfl
  | _ :: _, [] => Iff.rfl
  | e :: l, g :: F => by
    rw [List.map_cons]
    show ((f e).lo ≤ g ∧ g ≤ (f e).hi ∧ inB (l.map f) F) ↔ (e.lo ≤ g ∧ g ≤ e.hi ∧ inB l F)
    rw [inB_map hf l F, (hf e).1, (hf e).2]
/-- An edge whose cost is multiplied. -/
def scE (k : Int) (e : Ed) : Ed := ⟨e.a, e.b, e.lo, e.hi, k * e.c⟩
/-- An edge whose cost is changed by levels. -/
def mvE (L : Int → Int) (e : Ed) : Ed := ⟨e.a, e.b, e.lo, e.hi, e.c + L e.a - L e.b⟩
theorem scaled {n : Nat} {l : List Ed} {k : Int} (hk : 0 < k) {R T : R4} (hR : Sums n l R) (hT : Sums n (l.map (scE k)) T) :
    (R.e = 14 ∧ T.e = 14) ∨ (R.e = 0 ∧ T.e = 0 ∧ inB l R.F ∧ inB (l.map (scE k)) R.F ∧ inB (l.map (scE k)) T.F ∧ cost (l.map (scE k)) T.F = cost (l.map (scE k)) R.F) := by
  have hb := fun (F : List Int) (v : Int) => bal_map (f := scE k) (fun e => ⟨rfl, rfl⟩) v l F
  have hi := fun (F : List Int) => inB_map (f := scE k) (fun e => ⟨rfl, rfl⟩) l F
  have hc : ∀ F, circ n (l.map (scE k)) F ↔ circ n l F := fun F => ⟨fun h v hv => by rw [← hb]; exact h v hv, fun h v hv => by rw [hb]; exact h v hv⟩
  rcases hR with ⟨r1, _, r3, r4, _, r6⟩ | ⟨r1, _, _, _, r6⟩ <;> rcases hT with ⟨t1, _, t3, t4, _, t6⟩ | ⟨t1, _, _, _, t6⟩
  · refine .inr ⟨r1, t1, r3, (hi _).2 r3, t3, ?_⟩
    have a1 := t6 _ ((hi _).2 r3) ((hc _).2 r4)
    have a2 := Int.mul_le_mul_of_nonneg_left (r6 _ ((hi _).1 t3) ((hc _).1 t4)) (show 0 ≤ k by omega)
    have c1 : cost (l.map (scE k)) T.F = k * cost l T.F := cost_mul k l T.F
    have c2 : cost (l.map (scE k)) R.F = k * cost l R.F := cost_mul k l R.F
    omega
  · exact (t6 _ ((hi _).2 r3) ((hc _).2 r4)).elim
  · exact (r6 _ ((hi _).1 t3) ((hc _).1 t4)).elim
  · exact .inl ⟨r1, t1⟩
theorem moved {n : Nat} {l : List Ed} (hn : nodes n l) {L : Int → Int} {R T : R4} (hR : Sums n l R) (hT : Sums n (l.map (mvE L)) T) :
    (R.e = 14 ∧ T.e = 14) ∨ (R.e = 0 ∧ T.e = 0 ∧ inB l R.F ∧ inB (l.map (mvE L)) T.F ∧ cost (l.map (mvE L)) T.F = cost l R.F) := by
  have hb := fun (F : List Int) (v : Int) => bal_map (f := mvE L) (fun e => ⟨rfl, rfl⟩) v l F
  have hi := fun (F : List Int) => inB_map (f := mvE L) (fun e => ⟨rfl, rfl⟩) l F
  have hc : ∀ F, circ n (l.map (mvE L)) F ↔ circ n l F := fun F => ⟨fun h v hv => by rw [← hb]; exact h v hv, fun h v hv => by rw [hb]; exact h v hv⟩
  have hp : ∀ F, circ n l F → cost (l.map (mvE L)) F = cost l F := fun F h => by
    have := cost_pot (L := L) l F
    rw [pot_circ hn h] at this
    exact this.trans (by omega)
  rcases hR with ⟨r1, _, r3, r4, _, r6⟩ | ⟨r1, _, _, _, r6⟩ <;> rcases hT with ⟨t1, _, t3, t4, _, t6⟩ | ⟨t1, _, _, _, t6⟩
  · refine .inr ⟨r1, t1, r3, t3, ?_⟩
    have a1 := t6 _ ((hi _).2 r3) ((hc _).2 r4)
    have a2 := r6 _ ((hi _).1 t3) ((hc _).1 t4)
    rw [hp _ ((hc _).1 t4)] at a1 ⊢
    rw [hp _ r4] at a1
    omega
  · exact (t6 _ ((hi _).2 r3) ((hc _).2 r4)).elim
  · exact (r6 _ ((hi _).1 t3) ((hc _).1 t4)).elim
  · exact .inl ⟨r1, t1⟩
/-- The same edges, some with less room. -/
def less : List Ed → List Ed → Prop
  | e' :: y, e :: x => (e'.a = e.a ∧ e'.b = e.b ∧ e'.c = e.c ∧ e.lo ≤ e'.lo ∧ e'.hi ≤ e.hi) ∧ less y x
  | [], [] => True
  | _, _ => False
theorem less_refl : ∀ x : List Ed, less x x
  | [] => trivial
  | e :: x => ⟨⟨rfl, rfl, rfl, Int.le_refl _, Int.le_refl _⟩, less_refl x⟩
theorem less_set {e' : Ed} : ∀ {x : List Ed} {k : Nat}, k < x.length → (e'.a = (x.getD k edZ).a ∧ e'.b = (x.getD k edZ).b ∧ e'.c = (x.getD k edZ).c ∧ (x.getD k edZ).lo ≤ e'.lo ∧ e'.hi ≤ (x.getD k edZ).hi) → less (x.set k e') x
  | [], _, h, _ => by simp at h
  | e :: x, 0, _, h => ⟨h, less_refl x⟩
  | e :: x, k + 1, h, hs => ⟨⟨rfl, rfl, rfl, Int.le_refl _, Int.le_refl _⟩, less_set (by simpa using h) (by simpa using hs)⟩
theorem bal_less (v : Int) : ∀ {y x : List Ed} {F : List Int}, less y x → bal y F v = bal x F v
  | [], [], _, _ => rfl
  | [], _ :: _, _, h => h.elim
  | _ :: _, [], _, h => h.elim
  | _ :: _, _ :: _, [], _ => rfl
  | e' :: y, e :: x, f :: F, h => by
    rw [bal, bal, bal_less v h.2, h.1.1, h.1.2.1]
theorem cost_less : ∀ {y x : List Ed} {F : List Int}, less y x → cost y F = cost x F
  | [], [], _, _ => rfl
  | [], _ :: _, _, h => h.elim
  | _ :: _, [], _, h => h.elim
  | _ :: _, _ :: _, [], _ => rfl
  | e' :: y, e :: x, f :: F, h => by
    rw [cost, cost, cost_less h.2, h.1.2.2.1]
theorem inB_less : ∀ {y x : List Ed} {F : List Int}, less y x → inB y F → inB x F
  | [], [], _, _, hF => hF
  | [], _ :: _, _, h, _ => h.elim
  | _ :: _, [], _, h, _ => h.elim
  | _ :: _, _ :: _, [], _, hF => hF
  | e' :: y, e :: x, f :: F, h, hF => by
    obtain ⟨⟨_, _, _, h4, h5⟩, h6⟩ := h
    exact ⟨by have := hF.1; omega, by have := hF.2.1; omega, inB_less h6 hF.2.2⟩
theorem rooms {n : Nat} {x y : List Ed} (h : less y x) {R T : R4} (hR : Sums n x R) (hT : Sums n y T) :
    (R.e = 14 ∧ T.e = 14) ∨ (R.e = 0 ∧ inB x R.F ∧ circ n x R.F ∧ (∀ G, inB x G → circ n x G → cost x R.F ≤ cost x G) ∧ (T.e = 14 ∨ T.e = 0 ∧ inB y T.F ∧ cost x R.F ≤ cost y T.F)) := by
  have hc : ∀ F, circ n y F → circ n x F := fun F g v hv => by rw [← bal_less v h]; exact g v hv
  rcases hR with ⟨r1, _, r3, r4, _, r6⟩ | ⟨r1, _, _, _, r6⟩ <;> rcases hT with ⟨t1, _, t3, t4, _, t6⟩ | ⟨t1, _, _, _, t6⟩
  · exact .inr ⟨r1, r3, r4, r6, .inr ⟨t1, t3, by rw [cost_less h]; exact r6 _ (inB_less h t3) (hc _ t4)⟩⟩
  · exact .inr ⟨r1, r3, r4, r6, .inl t1⟩
  · exact (r6 _ (inB_less h t3) (hc _ t4)).elim
  · exact .inl ⟨r1, t1⟩
theorem inB_on (s : Int) (l : List Ed) (F : List Int) : inB (l.map (Ed.on s)) F ↔ inB l F := inB_map (f := Ed.on s) (fun e => ⟨rfl, rfl⟩) l F
theorem apart_ok {n k : Nat} {x y : List Ed} (hx : NetOk n x) (hy : NetOk k y) (hn : n + k ≤ 64) (hl : x.length + y.length ≤ 256) : NetOk (n + k) (x ++ y.map (Ed.on n)) := ⟨hn, by rw [List.length_append, List.length_map]; omega, fun e he => by
  rcases List.mem_append.1 he with h | h
  · have := hx.ed e h
    omega
  · obtain ⟨e, h2, rfl⟩ := List.mem_map.1 h
    have := hy.ed e h2
    show 0 ≤ e.a + (n : Int) ∧ e.a + (n : Int) < ((n + k : Nat) : Int) ∧ 0 ≤ e.b + (n : Int) ∧ e.b + (n : Int) < ((n + k : Nat) : Int) ∧ 0 ≤ e.lo ∧ e.lo ≤ e.hi ∧ e.hi ≤ 1000 ∧ -1000 ≤ e.c ∧ e.c ≤ 1000
    omega⟩
theorem circ_apart {n k : Nat} {x y : List Ed} (hx : nodes n x) (hy : nodes k y) {F G : List Int} (hF : F.length = x.length) : circ (n + k) (x ++ y.map (Ed.on n)) (F ++ G) ↔ circ n x F ∧ circ k y G := by
  have hb : ∀ v, bal (x ++ y.map (Ed.on n)) (F ++ G) v = bal x F v + bal y G (v - n) := fun v => by rw [bal_app v hF, bal_on]
  have hxo : ∀ v : Int, (n : Int) ≤ v → bal x F v = 0 := fun v hv => bal_out fun e he => by have := hx e he; omega
  have hyo : ∀ v : Int, v < 0 → bal y G v = 0 := fun v hv => bal_out fun e he => by have := hy e he; omega
  constructor
  · intro h
    refine ⟨fun v hv => ?_, fun v hv => ?_⟩
    · have := h v (by omega)
      rw [hb, hyo _ (by omega)] at this
      omega
    · have := h (n + v) (by omega)
      rw [hb, hxo _ (by omega), show ((n + v : Nat) : Int) - (n : Int) = (v : Int) by omega] at this
      omega
  · rintro ⟨h1, h2⟩ v hv
    rw [hb]
    by_cases hvn : v < n
    · rw [h1 v hvn, hyo _ (by omega)]; rfl
    · have := h2 (v - n) (by omega)
      rw [show ((v - n : Nat) : Int) = (v : Int) - (n : Int) by omega] at this
      rw [hxo _ (by omega), this]; rfl
theorem apart {n k : Nat} {x y : List Ed} (hx : nodes n x) (hy : nodes k y) {A B C : R4} (hA : Sums n x A) (hB : Sums k y B) (hC : Sums (n + k) (x ++ y.map (Ed.on n)) C) :
    (C.e = 0 ∧ A.e = 0 ∧ B.e = 0 ∧ inB x A.F ∧ inB y B.F ∧ inB (x ++ y.map (Ed.on n)) C.F ∧ cost (x ++ y.map (Ed.on n)) C.F = cost x A.F + cost y B.F) ∨ (C.e = 14 ∧ (A.e = 0 ∧ B.e = 14 ∨ A.e = 14 ∧ (B.e = 0 ∨ B.e = 14))) := by
  have split : ∀ F, inB (x ++ y.map (Ed.on n)) F → circ (n + k) (x ++ y.map (Ed.on n)) F → ∃ G H, F = G ++ H ∧ G.length = x.length ∧ inB x G ∧ inB y H ∧ circ n x G ∧ circ k y H := fun F h1 h2 => by
    have hl := inB_len h1
    rw [List.length_append] at hl
    have ht : (F.take x.length).length = x.length := by rw [List.length_take]; omega
    have e := List.take_append_drop x.length F
    refine ⟨F.take x.length, F.drop x.length, e.symm, ht, ?_⟩
    rw [← e] at h1 h2
    have i1 := (inB_app ht).1 h1
    have i2 := (circ_apart hx hy ht).1 h2
    exact ⟨i1.1, (inB_on n y _).1 i1.2, i2.1, i2.2⟩
  have cst : ∀ {G H : List Int}, G.length = x.length → cost (x ++ y.map (Ed.on n)) (G ++ H) = cost x G + cost y H := fun h => by rw [cost_app h, cost_on]
  rcases hC with ⟨c1, _, c3, c4, _, c6⟩ | ⟨c1, _, _, _, c6⟩
  · obtain ⟨G, H, e, hl, g1, g2, g3, g4⟩ := split _ c3 c4
    rcases hA with ⟨a1, _, a3, a4, _, a6⟩ | ⟨a1, _, _, _, a6⟩
    · rcases hB with ⟨b1, _, b3, b4, _, b6⟩ | ⟨b1, _, _, _, b6⟩
      · refine .inl ⟨c1, a1, b1, a3, b3, c3, ?_⟩
        have u := c6 _ ((inB_app (inB_len a3)).2 ⟨a3, (inB_on n y _).2 b3⟩) ((circ_apart hx hy (inB_len a3)).2 ⟨a4, b4⟩)
        rw [cst (inB_len a3)] at u
        have w1 := a6 _ g1 g3
        have w2 := b6 _ g2 g4
        rw [e, cst hl] at u ⊢
        omega
      · exact (b6 _ g2 g4).elim
    · exact (a6 _ g1 g3).elim
  · refine .inr ⟨c1, ?_⟩
    rcases hA with ⟨a1, _, a3, a4, _, a6⟩ | ⟨a1, _, _, _, a6⟩
    · rcases hB with ⟨b1, _, b3, b4, _, b6⟩ | ⟨b1, _, _, _, b6⟩
      · exact (c6 _ ((inB_app (inB_len a3)).2 ⟨a3, (inB_on n y _).2 b3⟩) ((circ_apart hx hy (inB_len a3)).2 ⟨a4, b4⟩)).elim
      · exact .inl ⟨a1, b1⟩
    · rcases hB with ⟨b1, _⟩ | ⟨b1, _⟩
      · exact .inr ⟨a1, .inl b1⟩
      · exact .inr ⟨a1, .inr b1⟩
end Go.Fl

namespace Go.Proofs.Ytkpidpmlehkjbaa
open Go.V Go.RowKit Go.L Go.Lx Go.Fl
set_option maxRecDepth 10000
set_option maxHeartbeats 4000000
theorem apart_law (l m : List Int) (hl : IOk l) (hm : IOk m) : Ok Try.prog 7 [] [] (.pair (liV l) (.pair (liV m) .nul)) (fun r h' => r = .bool true ∧ h' = []) := by
  have cn := network_ok l hl
  have cm := network_ok m hm
  have okx := net_ok l
  have oky := net_ok m
  have hx : (netX l).length ≤ 9 := by rw [netX_len]; exact cnt_le l
  have hy : (netX m).length ≤ 9 := by rw [netX_len]; exact cnt_le m
  have hn := netN_le l
  have hk := netN_le m
  generalize netX l = x at *
  generalize netN l = n at *
  generalize netX m = y at *
  generalize netN m = k at *
  have oka := apart_ok okx oky (by omega) (by omega)
  have hlen : (x ++ y.map (Ed.on n)).length = x.length + y.length := by rw [List.length_append, List.length_map]
  have cox := own_ok x (by omega)
  have coy := own_ok y (by omega)
  have coa := own_ok (x ++ y.map (Ed.on n)) (by omega)
  have clx := least_ok n x (by omega)
  have cly := least_ok k y (by omega)
  have cla := least_ok (n + k : Nat) (x ++ y.map (Ed.on n)) (by omega)
  have sx := lst_sums okx (by omega)
  have sy := lst_sums oky (by omega)
  have sa := lst_sums oka (by omega)
  have hap := apart okx.nodes oky.nodes sx sy sa
  obtain ⟨x1, x2, x3⟩ := lst_len okx (by omega)
  obtain ⟨y1, y2, y3⟩ := lst_len oky (by omega)
  obtain ⟨a1, a2, a3⟩ := lst_len oka (by omega)
  clear sx sy sa
  have cv := lives_ok
  have hcx := fun {F : List Int} (h : inB x F) => okx.cost h
  have hcy := fun {F : List Int} (h : inB y F) => oky.cost h
  have hcz := fun {F : List Int} (h : inB (x ++ y.map (Ed.on n)) F) => oka.cost h
  rw [Int.natCast_add] at *
  generalize lst (n : Int) x = A at *
  generalize lst (k : Int) y = B at *
  generalize lst ((n : Int) + (k : Int)) (x ++ y.map (Ed.on n)) = C at *
  obtain ⟨AF, AL, AS, Ae⟩ := A
  obtain ⟨BF, BL, BS, Be⟩ := B
  obtain ⟨CF, CL, CS, Ce⟩ := C
  replace clx : Ok Try.prog 14 [] [] (.pair (.int .i64 (n : Nat)) (.pair (edV x) .nul)) (fun r h' => r = .tup (.pair (.pair (lsV AF) (.pair (lsV AL) .nul)) (.pair (lsV AS) (.pair (.int .i64 Ae) .nul))) ∧ h' = []) := clx
  replace cly : Ok Try.prog 14 [] [] (.pair (.int .i64 (k : Nat)) (.pair (edV y) .nul)) (fun r h' => r = .tup (.pair (.pair (lsV BF) (.pair (lsV BL) .nul)) (.pair (lsV BS) (.pair (.int .i64 Be) .nul))) ∧ h' = []) := cly
  replace cla : Ok Try.prog 14 [] [] (.pair (.int .i64 ((n : Int) + (k : Int))) (.pair (edV (x ++ y.map (Ed.on n))) .nul)) (fun r h' => r = .tup (.pair (.pair (lsV CF) (.pair (lsV CL) .nul)) (.pair (lsV CS) (.pair (.int .i64 Ce) .nul))) ∧ h' = []) := cla
  replace hap : (Ce = 0 ∧ Ae = 0 ∧ Be = 0 ∧ inB x AF ∧ inB y BF ∧ inB (x ++ y.map (Ed.on n)) CF ∧ cost (x ++ y.map (Ed.on n)) CF = cost x AF + cost y BF) ∨ (Ce = 14 ∧ (Ae = 0 ∧ Be = 14 ∨ Ae = 14 ∧ (Be = 0 ∨ Be = 14))) := hap
  replace x1 : AF.length ≤ 256 := x1
  replace y1 : BF.length ≤ 256 := y1
  replace a1 : CF.length ≤ 256 := a1
  refine Ok.of_vcC tt_ok Try.func7 rfl rfl (by show 2 ≤ _; decide) 0 (hlt_ok (by rfl)) fun c0 => ?_
  repeat' (first | (refine SS_ ?_) | (refine Seq.callp true (cn) Try.func9 GOk.nil subG.nil (by rfl) (by rfl) rfl rfl rfl rfl rfl (by rfl) rfl VW_ NI_ NI_ FR_ ?_) | (refine Seq.callp true (cm) Try.func9 GOk.nil subG.nil (by rfl) (by rfl) rfl rfl rfl rfl rfl (by rfl) rfl VW_ NI_ NI_ FR_ ?_) | fail)
  obtain ⟨z, hz⟩ : ∃ z, z = x ++ y.map (Ed.on n) := ⟨_, rfl⟩
  rw [← hz] at coa cla hap hlen oka hcz
  have hzx : z.take x.length = x := by rw [hz]; exact List.take_left' rfl
  have hzg : ∀ j, j < y.length → z.getD (x.length + j) edZ = Ed.on n (y.getD j edZ) := fun j hj => by
    rw [hz, List.getD_eq_getElem?_getD, List.getElem?_append_right (by omega), List.getElem?_map, show x.length + j - x.length = j by omega, List.getElem?_eq_getElem hj, List.getD_eq_getElem?_getD, List.getElem?_eq_getElem hj]; rfl
  refine VC.loop (fun j : Nat => ⟨[(10, .int .i64 (j : Nat)), (9, .sl 0 [] 5 0 (z.take (x.length + j)).length), (8, edT y), (7, .int .i64 (k : Nat)), (6, edT x), (5, .int .i64 (n : Nat))], [(0, .arr (z.take (x.length + j)).length 5 (fun i => edA ((z.take (x.length + j)).getD i edZ)))], [], 1⟩) (fun j => j ≤ y.length) (fun j => y.length - j) 0 (by omega) (by
    show ∀ a w, _ → Sim _ ⟨[(10, .int .i64 ((0 : Nat) : Int)), (9, .sl 0 [] 5 0 (z.take x.length).length), (8, edT y), (7, .int .i64 (k : Nat)), (6, edT x), (5, .int .i64 (n : Nat))], [(0, .arr (z.take x.length).length 5 (fun i => edA ((z.take x.length).getD i edZ)))], [], 1⟩ a w
    rw [hzx]
    exact (Sim.less [] (by rfl) R_ R_)) fun j hj => ?_
  by_cases hjl : j < y.length
  · have hst := take_snoc (d := edZ) (l := z) (k := x.length + j) (by omega)
    have hb := oky.get hjl
    have htl : (z.take (x.length + j)).length = x.length + j := by rw [List.length_take]; omega
    have hjj : ((j : Nat) : Int).toNat = j := Int.toNat_natCast j
    rw [hzg j hjl, show Ed.on n (y.getD j edZ) = Ed.on n (y.getD ((j : Nat) : Int).toNat edZ) by rw [hjj]] at hst
    rw [← hjj] at hb
    generalize hT : z.take (x.length + j + 1) = T2 at *
    generalize z.take (x.length + j) = T at *
    repeat' (first | (refine SS_ ?_) | (refine VC.litT (by rfl) LTR_ ?_) | fail)
    refine ⟨j + 1, by omega, by omega, ?_⟩
    show ∀ a w, _ → Sim _ ⟨[(10, .int .i64 ((j + 1 : Nat) : Int)), (9, .sl 0 [] 5 0 (z.take (x.length + j + 1)).length), (8, edT y), (7, .int .i64 (k : Nat)), (6, edT x), (5, .int .i64 (n : Nat))], [(0, .arr (z.take (x.length + j + 1)).length 5 (fun i => edA ((z.take (x.length + j + 1)).getD i edZ)))], [], 1⟩ a w
    rw [hT, hst, List.length_append, List.length_singleton]
    (refine Sim.less [(0, 3)] (by rfl) ?_ ?_ <;> (repeat' (first | (exact EnvLe.nil) | (exact HeapLe.nil) | (with_reducible apply EnvLe.cons) | (with_reducible apply HeapLe.cons) | ((with_reducible refine RelA.int ?_; first | (refine Keep.mk ?_; first | with_reducible rfl | omega | decide) | skip)) | (exact rfl) | (exact ⟨rfl, rfl⟩) | ((with_reducible refine RelA.rsl ?_; intro i hi)) | (with_reducible refine RelA.pair ?_ ?_) | ((refine RelA.arr ?_; intro i hi)) | fail)) <;> (try with_reducible refine Keep.mk ?_))
    exact rel_snocG (G := edA) (fun e => NI_) (by assumption) (by rfl)
  · obtain rfl : j = y.length := by omega
    rw [show z.take (x.length + y.length) = z by rw [← hlen]; exact List.take_length]
    rcases hap with ⟨rfl, rfl, rfl, i1, i2, i3, he⟩ | ⟨rfl, h⟩
    · have l1 := inB_len i1
      have l2 := inB_len i2
      have l3 := inB_len i3
      have d1 := hcx i1
      have d2 := hcy i2
      have d3 := hcz i3
      have k1 := cost_ok (okx.cbd i1)
      have k2 := cost_ok (oky.cbd i2)
      have k3 := cost_ok (oka.cbd i3)
      generalize cost x AF = u1 at *
      generalize cost y BF = u2 at *
      generalize cost z CF = u3 at *
      repeat' (first | (refine SS_ ?_) | (refine Seq.callp true (cox) Try.func15 GOk.nil subG.nil (by rfl) (by rfl) rfl rfl rfl rfl rfl (by rfl) rfl VW_ NI_ NI_ FR_ ?_) | (refine Seq.callp true (clx) Try.func14 GOk.nil subG.nil (by rfl) (by rfl) rfl rfl rfl rfl rfl (by rfl) rfl VW_ NI_ NI_ FR_ ?_) | (refine Seq.callp true (coy) Try.func15 GOk.nil subG.nil (by rfl) (by rfl) rfl rfl rfl rfl rfl (by rfl) rfl VW_ NI_ NI_ FR_ ?_) | (refine Seq.callp true (cly) Try.func14 GOk.nil subG.nil (by rfl) (by rfl) rfl rfl rfl rfl rfl (by rfl) rfl VW_ NI_ NI_ FR_ ?_) | (refine Seq.callp true (coa) Try.func15 GOk.nil subG.nil (by rfl) (by rfl) rfl rfl rfl rfl rfl (by rfl) rfl VW_ NI_ NI_ FR_ ?_) | (refine Seq.callp true (cla) Try.func14 GOk.nil subG.nil (by rfl) (by rfl) rfl rfl rfl rfl rfl (by rfl) rfl VW_ NI_ NI_ FR_ ?_) | (refine Seq.val (nebool_ok tt_ok (by rfl) (by rfl) (by rfl) false (by decide)) (by rfl) (by rfl) ?_) | (refine VC.drawm (id := 20) [(0, 0), (1, 0), (2, 2), (3, 7), (4, 0), (5, 0), (6, 32), (7, 127), (8, 0), (9, 0), (10, 512), (11, 2047), (12, 4095), (13, 8191), (14, 16383), (15, 32767), (16, 65535)] [17] (by rfl) (by kernel_rfl) (by rfl) ?_) | (refine DSeq.callp true (k3) Try.func24 GOk.nil subG.nil (by rfl) (fastE (by rfl)) (fastH (by rfl)) (by rfl) (by rfl) rfl rfl rfl rfl rfl (by rfl) (by rfl) VW_ NI_ NI_ FR_ ?_) | (refine DSeq.callp true (k1) Try.func24 GOk.nil subG.nil (by rfl) (fastE (by rfl)) (fastH (by rfl)) (by rfl) (by rfl) rfl rfl rfl rfl rfl (by rfl) (by rfl) VW_ NI_ NI_ FR_ ?_) | (refine DSeq.callp true (k2) Try.func24 GOk.nil subG.nil (by rfl) (fastE (by rfl)) (fastH (by rfl)) (by rfl) (by rfl) rfl rfl rfl rfl rfl (by rfl) (by rfl) VW_ NI_ NI_ FR_ ?_) | (refine DSeq.callp true (cv) Try.func13 GOk.nil subG.nil (by rfl) (fastE (by rfl)) (fastH (by rfl)) (by rfl) (by rfl) rfl rfl rfl rfl rfl (by rfl) (by rfl) VW_ NI_ NI_ FR_ ?_) | (refine Seq.lit (by rfl) (by rfl) LT2_ ?_) | (refine VC.litF (by rfl) LFA_ ?_) | (refine DD_ ?_) | (refine DSeq.lit2 (by rfl) (by rfl) (by rfl) LT2_ (by rfl) ?_) | fail)
      (refine retC_mk ([(4, .bool true)]) ([]) 4 (Sim.less [] (by rfl) R_ R_) (retQ_ok (by rfl) ([]) (fun i av h => h) ⟨?_, ?_⟩)) <;> rfl
    · rcases h with ⟨rfl, rfl⟩ | ⟨rfl, rfl | rfl⟩
      all_goals
        repeat' (first | (refine SS_ ?_) | (refine Seq.callp true (cox) Try.func15 GOk.nil subG.nil (by rfl) (by rfl) rfl rfl rfl rfl rfl (by rfl) rfl VW_ NI_ NI_ FR_ ?_) | (refine Seq.callp true (clx) Try.func14 GOk.nil subG.nil (by rfl) (by rfl) rfl rfl rfl rfl rfl (by rfl) rfl VW_ NI_ NI_ FR_ ?_) | (refine Seq.callp true (coy) Try.func15 GOk.nil subG.nil (by rfl) (by rfl) rfl rfl rfl rfl rfl (by rfl) rfl VW_ NI_ NI_ FR_ ?_) | (refine Seq.callp true (cly) Try.func14 GOk.nil subG.nil (by rfl) (by rfl) rfl rfl rfl rfl rfl (by rfl) rfl VW_ NI_ NI_ FR_ ?_) | (refine Seq.callp true (coa) Try.func15 GOk.nil subG.nil (by rfl) (by rfl) rfl rfl rfl rfl rfl (by rfl) rfl VW_ NI_ NI_ FR_ ?_) | (refine Seq.callp true (cla) Try.func14 GOk.nil subG.nil (by rfl) (by rfl) rfl rfl rfl rfl rfl (by rfl) rfl VW_ NI_ NI_ FR_ ?_) | (refine Seq.val (nebool_ok tt_ok (by rfl) (by rfl) (by rfl) false (by decide)) (by rfl) (by rfl) ?_) | (refine Seq.callp true (cv) Try.func13 GOk.nil subG.nil (by rfl) (by rfl) rfl rfl rfl rfl rfl (by rfl) rfl VW_ NI_ NI_ FR_ ?_) | (refine VC.litT (by rfl) LTR_ ?_) | (refine VC.litF (by rfl) LFA_ ?_) | fail)
        (refine retC_mk ([(4, .bool true)]) ([]) 4 (Sim.less [] (by rfl) R_ R_) (retQ_ok (by rfl) ([]) (fun i av h => h) ⟨?_, ?_⟩)) <;> rfl
end Go.Proofs.Ytkpidpmlehkjbaa
