/- Flow: FlowEither. Flow: what Least gives, in one sentence; networks side by side, with less room, with other costs. Plain. -/
import Derived.Test.YtkpidpmlehkjbaaZj
import Derived.Test.YtkpidpmlehkjbaaZm
import Derived.Test.YtkpidpmlehkjbaaWj
set_option linter.unusedSimpArgs false
set_option linter.unusedVariables false
namespace Go.Fl
theorem lst_len {n : Nat} {l : List Ed} (ok : NetOk n l) (hl : l.length ≤ 256) : (lst n l).F.length ≤ 256 ∧ (lst n l).L.length ≤ 64 ∧ (lst n l).S.length ≤ 64 := by
  have hn := ok.n64
  rcases lst_cases ok hl (given_of ok hl) with ⟨F, h1, h2, h3, h4⟩ | ⟨F, v, h1, h2, h3⟩
  · rw [h1]
    have := (inB_iff.1 h2).1
    refine ⟨by show F.length ≤ _; omega, ?_, Nat.zero_le _⟩
    show ((List.range n).map _).length ≤ _
    rw [List.length_map, List.length_range]; omega
  · rw [h1]
    refine ⟨Nat.zero_le _, Nat.zero_le _, ?_⟩
    show (blkL n l F v).length ≤ _
    unfold blkL
    rw [List.length_map]
    exact Nat.le_trans (List.length_filter_le _ _) (by rw [List.length_range]; omega)
end Go.Fl
namespace Go.Proofs.Ytkpidpmlehkjbaa
open Go.V Go.RowKit Go.L Go.Lx Go.Fl
set_option maxRecDepth 10000
set_option maxHeartbeats 4000000
end Go.Proofs.Ytkpidpmlehkjbaa

namespace Go.Fl
/-- What Least gives for a network. -/
def Sums (n : Nat) (l : List Ed) (R : R4) : Prop :=
  (R.e = 0 ∧ R.S = [] ∧ inB l R.F ∧ circ n l R.F ∧ chkE n l R.F R.L = 0 ∧ ∀ G, inB l G → circ n l G → cost l R.F ≤ cost l G) ∨
  (R.e = 14 ∧ R.F = [] ∧ R.L = [] ∧ cutE n l R.S = 0 ∧ ∀ G, inB l G → circ n l G → False)
theorem inB_len {l : List Ed} {F : List Int} (h : inB l F) : F.length = l.length := (inB_iff.1 h).1
theorem inB_map {f : Ed → Ed} (hf : ∀ e, (f e).lo = e.lo ∧ (f e).hi = e.hi) : ∀ (l : List Ed) (F : List Int), inB (l.map f) F ↔ inB l F
  | [], _ => Iff.rfl
  | _ :: _, [] => Iff.rfl
  | e :: l, g :: F => by
    rw [List.map_cons]
    show ((f e).lo ≤ g ∧ g ≤ (f e).hi ∧ inB (l.map f) F) ↔ (e.lo ≤ g ∧ g ≤ e.hi ∧ inB l F)
    rw [inB_map hf l F, (hf e).1, (hf e).2]
/-- The same edges, some with less room. -/
def less : List Ed → List Ed → Prop
  | e' :: y, e :: x => (e'.a = e.a ∧ e'.b = e.b ∧ e'.c = e.c ∧ e.lo ≤ e'.lo ∧ e'.hi ≤ e.hi) ∧ less y x
  | [], [] => True
  | _, _ => False
theorem inB_on (s : Int) (l : List Ed) (F : List Int) : inB (l.map (Ed.on s)) F ↔ inB l F := inB_map (f := Ed.on s) (fun e => ⟨rfl, rfl⟩) l F
theorem circ_apart {n k : Nat} {x y : List Ed} (hx : nodes n x) (hy : nodes k y) {F G : List Int} (hF : F.length = x.length) : circ (n + k) (x ++ y.map (Ed.on n)) (F ++ G) ↔ circ n x F ∧ circ k y G := by
  have hb : ∀ v, bal (x ++ y.map (Ed.on n)) (F ++ G) v = bal x F v + bal y G (v - n) := fun v => by rw [bal_app v hF, bal_on]
  have hxo : ∀ v : Int, (n : Int) ≤ v → bal x F v = 0 := fun v hv => bal_out fun e he => by have := hx e he; omega
  have hyo : ∀ v : Int, v < 0 → bal y G v = 0 := fun v hv => bal_out fun e he => by have := hy e he; omega
  constructor
  · intro h
    refine ⟨fun v hv => ?_, fun v hv => ?_⟩
    · have := h v (by omega)
      rw [hb, hyo _ (by omega)] at this
      omega
    · have := h (n + v) (by omega)
      rw [hb, hxo _ (by omega), show ((n + v : Nat) : Int) - (n : Int) = (v : Int) by omega] at this
      omega
  · rintro ⟨h1, h2⟩ v hv
    rw [hb]
    by_cases hvn : v < n
    · rw [h1 v hvn, hyo _ (by omega)]; rfl
    · have := h2 (v - n) (by omega)
      rw [show ((v - n : Nat) : Int) = (v : Int) - (n : Int) by omega] at this
      rw [hxo _ (by omega), this]; rfl
theorem apart {n k : Nat} {x y : List Ed} (hx : nodes n x) (hy : nodes k y) {A B C : R4} (hA : Sums n x A) (hB : Sums k y B) (hC : Sums (n + k) (x ++ y.map (Ed.on n)) C) :
    (C.e = 0 ∧ A.e = 0 ∧ B.e = 0 ∧ inB x A.F ∧ inB y B.F ∧ inB (x ++ y.map (Ed.on n)) C.F ∧ cost (x ++ y.map (Ed.on n)) C.F = cost x A.F + cost y B.F) ∨ (C.e = 14 ∧ (A.e = 0 ∧ B.e = 14 ∨ A.e = 14 ∧ (B.e = 0 ∨ B.e = 14))) := by
  have split : ∀ F, inB (x ++ y.map (Ed.on n)) F → circ (n + k) (x ++ y.map (Ed.on n)) F → ∃ G H, F = G ++ H ∧ G.length = x.length ∧ inB x G ∧ inB y H ∧ circ n x G ∧ circ k y H := fun F h1 h2 => by
    have hl := inB_len h1
    rw [List.length_append] at hl
    have ht : (F.take x.length).length = x.length := by rw [List.length_take]; omega
    have e := List.take_append_drop x.length F
    refine ⟨F.take x.length, F.drop x.length, e.symm, ht, ?_⟩
    rw [← e] at h1 h2
    have i1 := (inB_app ht).1 h1
    have i2 := (circ_apart hx hy ht).1 h2
    exact ⟨i1.1, (inB_on n y _).1 i1.2, i2.1, i2.2⟩
  have cst : ∀ {G H : List Int}, G.length = x.length → cost (x ++ y.map (Ed.on n)) (G ++ H) = cost x G + cost y H := fun h => by rw [cost_app h, cost_on]
  rcases hC with ⟨c1, _, c3, c4, _, c6⟩ | ⟨c1, _, _, _, c6⟩
  · obtain ⟨G, H, e, hl, g1, g2, g3, g4⟩ := split _ c3 c4
    rcases hA with ⟨a1, _, a3, a4, _, a6⟩ | ⟨a1, _, _, _, a6⟩
    · rcases hB with ⟨b1, _, b3, b4, _, b6⟩ | ⟨b1, _, _, _, b6⟩
      · refine .inl ⟨c1, a1, b1, a3, b3, c3, ?_⟩
        have u := c6 _ ((inB_app (inB_len a3)).2 ⟨a3, (inB_on n y _).2 b3⟩) ((circ_apart hx hy (inB_len a3)).2 ⟨a4, b4⟩)
        rw [cst (inB_len a3)] at u
        have w1 := a6 _ g1 g3
        have w2 := b6 _ g2 g4
        rw [e, cst hl] at u ⊢
        omega
      · exact (b6 _ g2 g4).elim
    · exact (a6 _ g1 g3).elim
  · refine .inr ⟨c1, ?_⟩
    rcases hA with ⟨a1, _, a3, a4, _, a6⟩ | ⟨a1, _, _, _, a6⟩
    · rcases hB with ⟨b1, _, b3, b4, _, b6⟩ | ⟨b1, _, _, _, b6⟩
      · exact (c6 _ ((inB_app (inB_len a3)).2 ⟨a3, (inB_on n y _).2 b3⟩) ((circ_apart hx hy (inB_len a3)).2 ⟨a4, b4⟩)).elim
      · exact .inl ⟨a1, b1⟩
    · rcases hB with ⟨b1, _⟩ | ⟨b1, _⟩
      · exact .inr ⟨a1, .inl b1⟩
      · exact .inr ⟨a1, .inr b1⟩
end Go.Fl
