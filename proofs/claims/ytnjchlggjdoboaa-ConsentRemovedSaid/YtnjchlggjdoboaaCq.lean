
/- Books of consent: what is made anew. -/
import Derived.Test.YtnjchlggjdoboaaCo
set_option linter.unusedSimpArgs false
set_option linter.unusedVariables false
namespace Go.Cs
theorem risP_of {last n : Int} : ∀ {l : List Int}, l.Pairwise (· < ·) → (∀ x ∈ l, last < x ∧ x < n) → risP last n l = true
  | [], _, _ => rfl
  | v :: r, h, hx => by
    rw [List.pairwise_cons] at h
    have h1 := hx v List.mem_cons_self
    rw [risP, if_neg (by omega)]
    exact risP_of h.2 fun y hy => ⟨h.1 y hy, (hx y (List.mem_cons_of_mem _ hy)).2⟩
def stA (s : Bk × List (List Int × List Int)) (a : ActS) : Bk × List (List Int × List Int) := (doB s.1 a, if doE s.1 a = 0 ∧ a.K = 0 then s.2 ++ [(a.F, a.P)] else s.2)
theorem inv_do {s : Bk × List (List Int × List Int)} (hb : BOk s.1) (hi : Inv s.1 s.2) {a : ActS} (ha : ActOk a) : BOk (stA s a).1 ∧ Inv (stA s a).1 (stA s a).2 := by
  refine ⟨good_do hb a, ?_⟩
  have hk := ha.k
  unfold stA
  show Inv (doB s.1 a) _
  unfold doB doE
  by_cases h1 : a.K = 1
  · rw [if_pos h1, if_pos h1, if_neg (fun h => by omega)]
    by_cases h : rmE s.1 a.N = 0
    · exact inv_rm hi h
    · rw [show rmB s.1 a.N = s.1 from if_neg h]; exact hi
  · rw [if_neg h1, if_neg h1]
    by_cases h2 : a.K = 2
    · rw [if_pos h2, if_pos h2, if_neg (fun h => by omega)]
      by_cases h : rnE s.1 a.N = 0
      · exact inv_rn hb hi h
      · rw [show rnB s.1 a.N = s.1 from if_neg h]; exact hi
    · rw [if_neg h2, if_neg h2]
      by_cases h : mkE s.1 a.F a.P = 0
      · rw [if_pos ⟨h, by omega⟩]; exact inv_mk hb hi h
      · rw [if_neg (fun h' => h h'.1), show mkB s.1 a.F a.P = s.1 from if_neg h]; exact hi
theorem do_gone {b : Bk} {a : ActS} (ha : ActOk a) : (doB b a).R = if doE b a = 0 ∧ a.K = 1 then b.R ++ [a.N] else b.R := by
  have hk := ha.k
  unfold doB doE
  by_cases h1 : a.K = 1
  · rw [if_pos h1, if_pos h1]
    by_cases h : rmE b a.N = 0
    · rw [if_pos ⟨h, h1⟩, show rmB b a.N = ⟨b.E.map (gone a.N), b.R ++ [a.N]⟩ from if_pos h]
    · rw [if_neg (fun h' => h h'.1), show rmB b a.N = b from if_neg h]
  · have hne : ∀ e : Int, ¬ (e = 0 ∧ a.K = 1) := fun e h => h1 h.2
    rw [if_neg (hne _), if_neg h1]
    by_cases h2 : a.K = 2
    · rw [if_pos h2]
      unfold rnB
      split <;> rfl
    · rw [if_neg h2]
      unfold mkB
      split <;> rfl
structure AnI (b o : Bk) (M : List (List Int × List Int)) (R : List Int) (i : Nat) : Prop where
  gb : BOk b
  inv : Inv b M
  r : b.R = R
  us : ∀ j, j < i → (b.E.getD j entZ).U = true
  go : BOk o
  ol : o.E.length = i
  or : o.R = []
  ou : ∀ j, j < i → (o.E.getD j entZ).U = true
  ob : ∀ j, j < i → (o.E.getD j entZ).B = (b.E.getD j entZ).B
theorem an_new {b : Bk} {M : List (List Int × List Int)} (hb : BOk b) (hi : Inv b M) : AnI b bk0 M b.R 0 :=
  ⟨hb, hi, rfl, fun j hj => absurd hj (Nat.not_lt_zero _), good_new, rfl, rfl, fun j hj => absurd hj (Nat.not_lt_zero _), fun j hj => absurd hj (Nat.not_lt_zero _)⟩
/-- The book behind a renewal, where one is wanted. -/
def reN (b : Bk) (i : Nat) : Bk := if (b.E.getD i entZ).U = true then b else rnB b i
theorem re_ok {b o : Bk} {M : List (List Int × List Int)} {R : List Int} {i : Nat} (h : AnI b o M R i) (hi : i < M.length) :
    ((b.E.getD i entZ).U = false → rnE b i = 0) ∧ BOk (reN b i) ∧ Inv (reN b i) M ∧ (reN b i).R = R ∧ ((reN b i).E.getD i entZ).U = true ∧ (reN b i).E.length = M.length ∧ ∀ j, j ≠ i → (reN b i).E.getD j entZ = b.E.getD j entZ := by
  have hin : i < b.E.length := by rw [← h.inv.len]; exact hi
  have hf := (h.gb.f i hin).2
  have hrn : (b.E.getD i entZ).U = false → rnE b i = 0 := fun hu => by
    have hnb : ¬ badT b (i : Nat) := by unfold badT; omega
    unfold rnE
    rw [if_neg hnb, Int.toNat_natCast, if_neg (by rw [hu]; decide), if_neg]
    intro hs
    unfold stale at hs
    obtain ⟨x, hx, hxu⟩ := List.any_eq_true.1 hs
    have := hf x hx
    rw [h.us x.toNat (by omega)] at hxu
    cases hxu
  refine ⟨hrn, ?_⟩
  unfold reN
  cases hu : (b.E.getD i entZ).U with
  | true => rw [if_pos rfl]; exact ⟨h.gb, h.inv, h.r, hu, h.inv.len.symm, fun j _ => rfl⟩
  | false =>
    have h0 := hrn hu
    rw [if_neg (by decide)]
    refine ⟨good_rn h.gb _, inv_rn h.gb h.inv h0, ?_, ?_, ?_, fun j hj => ?_⟩
    all_goals rw [show rnB b i = ⟨b.E.set ((i : Nat) : Int).toNat (renewed b (b.E.getD ((i : Nat) : Int).toNat entZ)), b.R⟩ from if_pos h0]
    · exact h.r
    · show ((b.E.set ((i : Nat) : Int).toNat _).getD i entZ).U = true
      rw [Int.toNat_natCast, setE_get hin]; rfl
    · show (b.E.set _ _).length = _
      rw [List.length_set]; exact h.inv.len.symm
    · show (b.E.set ((i : Nat) : Int).toNat _).getD j entZ = _
      rw [Int.toNat_natCast, setE_ne hj]
theorem an_step {b o : Bk} {M : List (List Int × List Int)} {R : List Int} {i : Nat} (h : AnI b o M R i) (hi : i < M.length) :
    mkE o (M.getD i thZ).1 (kept R (M.getD i thZ).2) = 0 ∧ AnI (reN b i) (mkB o (M.getD i thZ).1 (kept R (M.getD i thZ).2)) M R (i + 1) ∧
    (kept R (M.getD i thZ).2).length ≤ 512 := by
  obtain ⟨_, hb, hv, hr, hu, hlen, hne⟩ := re_ok h hi
  have hin : i < (reN b i).E.length := by rw [hlen]; exact hi
  generalize reN b i = b2 at *
  obtain ⟨f1, f2⟩ := hv.fp i hin
  obtain ⟨u1, u2, u3⟩ := hv.use i hin hu
  rw [hr] at f2 u3
  have hPk : kept R (b2.E.getD i entZ).P = (b2.E.getD i entZ).P := kept_self fun x hx => u3 x (by rw [u2]; exact mem_base.2 (.inl hx))
  rw [hPk] at f2
  rw [← f1, ← f2]
  obtain ⟨g1, g2⟩ := hb.f i hin
  obtain ⟨p1, p2, p3⟩ := hb.p i hin
  have h256 : i < 256 := by have := hb.n; omega
  have hz : mkE o (b2.E.getD i entZ).F (b2.E.getD i entZ).P = 0 := by
    unfold mkE
    rw [if_neg (by have := h.ol; omega), if_neg (by
      rw [h.ol, risP_of g1 fun x hx => ⟨by have := g2 x hx; omega, (g2 x hx).2⟩, risP_of p1 fun x hx => ⟨by have := p3 x hx; omega, (p3 x hx).2⟩]
      decide), if_neg (by rw [h.or]; unfold denied; simp), if_neg]
    intro hs
    unfold stale at hs
    obtain ⟨x, hx, hxu⟩ := List.any_eq_true.1 hs
    have := g2 x hx
    rw [h.ou x.toNat (by omega)] at hxu
    cases hxu
  have e : mkB o (b2.E.getD i entZ).F (b2.E.getD i entZ).P = ⟨o.E ++ [⟨(b2.E.getD i entZ).F, (b2.E.getD i entZ).P, baseOf o.E (b2.E.getD i entZ).F (b2.E.getD i entZ).P, true⟩], o.R⟩ := if_pos hz
  have hob : ∀ j, j < i → (o.E.getD j entZ).B = (b2.E.getD j entZ).B := fun j hj => by rw [h.ob j hj, hne j (by omega)]
  have hgm := good_mk h.go (b2.E.getD i entZ).F (b2.E.getD i entZ).P
  rw [e] at hgm ⊢
  have hlast : ∀ j, j < i + 1 → (o.E ++ [(⟨(b2.E.getD i entZ).F, (b2.E.getD i entZ).P, baseOf o.E (b2.E.getD i entZ).F (b2.E.getD i entZ).P, true⟩ : Ent)]).getD j entZ = if j < i then o.E.getD j entZ else ⟨(b2.E.getD i entZ).F, (b2.E.getD i entZ).P, baseOf o.E (b2.E.getD i entZ).F (b2.E.getD i entZ).P, true⟩ := fun j hj => by
    by_cases hji : j < i
    · rw [if_pos hji, app_lt (by rw [h.ol]; exact hji)]
    · rw [if_neg hji, show j = o.E.length by rw [h.ol]; omega, app_eq]
  refine ⟨hz, ⟨hb, hv, hr, fun j hj => ?_, hgm, by show (_ ++ _ : List Ent).length = _; simp [h.ol], h.or, fun j hj => ?_, fun j hj => ?_⟩, p2⟩
  · by_cases hji : j = i
    · rw [hji]; exact hu
    · rw [hne j hji]; exact h.us j (by omega)
  · show ((_ ++ _ : List Ent).getD j entZ).U = true
    rw [hlast j hj]
    split
    · rename_i h1; exact h.ou j h1
    · rfl
  · show ((_ ++ _ : List Ent).getD j entZ).B = _
    rw [hlast j hj]
    split
    · rename_i h1; exact hob j h1
    · rw [show j = i by omega, u2]
      show baseOf o.E _ _ = _
      refine baseOf_congr fun x hx => ?_
      unfold baseAt
      exact hob _ (by have := g2 x hx; omega)
end Go.Cs
