
/- Budgets: scripts by the values of their fractions; plain. -/
import Derived.Test.YtkhlmicogdjmlaaPc
import Derived.Test.YtkhlmicogdjmlaaPe
set_option linter.unusedSimpArgs false
set_option linter.unusedVariables false
namespace Go.Bg
open Go.Rt Go.Lx
theorem q_val {K p q : Int} (hK : 0 < K ∧ K ≤ 1000) (hp : 0 ≤ p ∧ p ≤ 1000) (hq : 0 < q) (h : q * (K / q) = K) : mkErr p q = 0 ∧ Vk K (mkV p q) (K / q * p) ∧ 1 ≤ (mkV p q).Q := by
  have h0 : 0 ≤ K / q := Int.ediv_nonneg (by omega) (by omega)
  have h1 : K / q ≤ 1000 := by have := Int.ediv_le_self q (show 0 ≤ K by omega); omega
  have h2 : K / q * p ≤ 1000 * 1000 := Int.mul_le_mul h1 hp.2 hp.1 (by decide)
  exact mk_val hK hp.1 hq ⟨Int.mul_nonneg h0 hp.1, by omega⟩ (by rw [← Int.mul_assoc, h])
/-- What a script's act costs. -/
theorem costV_val (n : Int) : ∃ w, Vk 12 (costV n) w ∧ w ≤ 72 := by
  have h1 := around_lt (Int.tdiv n 5) 7 (by decide)
  have h2 := around_lt n 5 (by decide)
  unfold costV
  generalize aroundI (Int.tdiv n 5) 7 = p at *
  obtain ⟨j, hj⟩ : ∃ j : Nat, (aroundI n 5).toNat = j := ⟨_, rfl⟩
  rw [hj]
  have key : ∀ q : Int, 0 < q → q * (12 / q) = 12 → ∃ w, Vk 12 (mkV p q) w ∧ w ≤ 72 := fun q hq he => by
    have := (q_val (K := 12) (p := p) ⟨by decide, by decide⟩ ⟨by omega, by omega⟩ hq he).2.1
    refine ⟨_, this, ?_⟩
    have h12 : 12 / q ≤ 12 := Int.ediv_le_self _ (by decide)
    have := Int.mul_le_mul (show 12 / q ≤ 12 from h12) (show p ≤ 6 by omega) (by omega) (by decide)
    exact this
  rcases (by omega : j = 0 ∨ j = 1 ∨ j = 2 ∨ j = 3 ∨ j = 4) with rfl | rfl | rfl | rfl | rfl
  · exact key 1 (by decide) (by decide)
  · exact key 2 (by decide) (by decide)
  · exact key 3 (by decide) (by decide)
  · exact key 4 (by decide) (by decide)
  · exact key 6 (by decide) (by decide)
theorem costAt_val (l : List Int) (f m : Int) (i : Nat) (hm : 1 ≤ m ∧ m ≤ 1000) : ∃ v, Vk 72 (costAt l f m i) v ∧ v ≤ 100000 := by
  have h1 := at_lt l (f + i) m hm.1
  have h2 := at_lt l (f + i + 1) 3 (by decide)
  unfold costAt
  generalize atI l (f + i) m = p at *
  generalize atI l (f + i + 1) 3 = y at *
  have key : ∀ q : Int, 0 < q → q * (72 / q) = 72 → ∃ v, Vk 72 (mkV p q) v ∧ v ≤ 100000 := fun q hq he => by
    have := (q_val (K := 72) (p := p) ⟨by decide, by decide⟩ ⟨by omega, by omega⟩ hq he).2.1
    refine ⟨_, this, ?_⟩
    have h12 : 72 / q ≤ 72 := Int.ediv_le_self _ (by decide)
    have := Int.mul_le_mul (show 72 / q ≤ 72 from h12) (show p ≤ 1000 by omega) (by omega) (by decide)
    omega
  rcases (by omega : y = 0 ∨ y = 1 ∨ y = 2) with rfl | rfl | rfl
  · exact key 1 (by decide) (by decide)
  · exact key 2 (by decide) (by decide)
  · exact key 3 (by decide) (by decide)
theorem av_new {r : Rq} (h : ∃ v, Vk 72 r v ∧ v ≤ 100000) : Av ⟨r, rz⟩ := by
  obtain ⟨v, hv, hb⟩ := h
  have e : vl r = v := hv.vl
  have hz : vl rz = 0 := (Vk.zero 72).vl
  exact ⟨by rw [e]; exact hv, by show Vk 72 rz (vl rz); rw [hz]; exact Vk.zero 72, by show vl rz ≤ vl r; rw [hz, e]; exact hv.n, by rw [e]; exact hb⟩
theorem accs_get {l : List Rq} {i : Nat} (h : i < l.length) : (accs l).getD i accZ = ⟨l.getD i rz, rz⟩ := by
  unfold accs
  rw [List.getD_eq_getElem?_getD, List.getElem?_map, List.getD_eq_getElem?_getD, List.getElem?_eq_getElem h]; rfl
/-- One step of a script. -/
structure Step (b b' : Bk) : Prop where
  v : BV b'
  na : b'.A.length = b.A.length
  no : b'.O.length = b.O.length
  W : b'.W = b.W
  la : ∀ i, (b'.A.getD i accZ).L = (b.A.getD i accZ).L
  lo : ∀ i, (b'.O.getD i accZ).L = (b.O.getD i accZ).L
  ua : ∀ i, i < b.A.length → vl (b.A.getD i accZ).U ≤ vl (b'.A.getD i accZ).U
  uo : ∀ i, i < b.O.length → vl (b.O.getD i accZ).U ≤ vl (b'.O.getD i accZ).U
theorem Step.refl {b : Bk} (h : BV b) : Step b b := ⟨h, rfl, rfl, rfl, fun _ => rfl, fun _ => rfl, fun _ _ => Int.le_refl _, fun _ _ => Int.le_refl _⟩
theorem ask_step {b : Bk} {l : List Int} {c : Rq} {w : Int} (hv : BV b) (hl : l.length ≤ 3) (hc : Vk 12 c w) (hw : w ≤ 1000) : Step b (askB b l c) := by
  by_cases h : askE b l c = 0
  · have q := asked hv hl hc hw h
    exact ⟨q.v, q.na, q.no, q.W, q.la, q.lo, fun i hi => by rw [q.ua i hi]; have := pc_nn l hc.n i; omega, fun i hi => by rw [q.uo i hi]; have := sh_nn b.W l hc.n i; omega⟩
  · rw [show askB b l c = b from if_neg h]; exact .refl hv
theorem rm_step {b : Bk} (hv : BV b) (p : Int) : Step b (rmB b p) := by
  unfold rmB
  split
  · exact ⟨⟨hv.a, hv.o⟩, rfl, rfl, rfl, fun _ => rfl, fun _ => rfl, fun _ _ => Int.le_refl _, fun _ _ => Int.le_refl _⟩
  · exact .refl hv
theorem do_step {b : Bk} {x : ActS} {w : Int} (hv : BV b) (hl : x.P.length ≤ 3) (hc : Vk 12 x.C w) (hw : w ≤ 1000) : Step b (doB b x) := by
  unfold doB
  split
  · exact rm_step hv _
  · exact ask_step hv hl hc hw
/-- Acts as scripts have them. -/
def ActsV (A : List ActS) : Prop := ∀ k, (A.getD k actZ).P.length ≤ 3 ∧ ∃ w, Vk 12 (A.getD k actZ).C w ∧ w ≤ 72
theorem script_val (s : List Int) (n : Int) : ActsV (script s n) := fun k => by
  rcases Nat.lt_or_ge k (scN s) with h | h
  · rw [script_get h]; exact ⟨scAct_len s n k, costV_val _⟩
  · rw [List.getD_eq_getElem?_getD, List.getElem?_eq_none (by rw [script_len]; exact h)]
    exact ⟨by decide, 0, Vk.zero 12, by decide⟩
theorem run_bv {A : List ActS} {b : Bk} (hv : BV b) (hA : ActsV A) : ∀ k, BV (runTo A b k)
  | 0 => hv
  | k + 1 => by
    obtain ⟨h1, w, h2, h3⟩ := hA k
    exact (do_step (run_bv hv hA k) h1 h2 (by omega)).v
theorem run_step {A : List ActS} {b : Bk} (hv : BV b) (hA : ActsV A) (k : Nat) : Step (runTo A b k) (runTo A b (k + 1)) := by
  obtain ⟨h1, w, h2, h3⟩ := hA k
  exact do_step (run_bv hv hA k) h1 h2 (by omega)
theorem run_L {A : List ActS} {b : Bk} (hv : BV b) (hA : ActsV A) : ∀ k, (∀ i, ((runTo A b k).A.getD i accZ).L = (b.A.getD i accZ).L) ∧ (∀ i, ((runTo A b k).O.getD i accZ).L = (b.O.getD i accZ).L) ∧ (runTo A b k).A.length = b.A.length ∧ (runTo A b k).O.length = b.O.length ∧ (runTo A b k).W = b.W
  | 0 => ⟨fun _ => rfl, fun _ => rfl, rfl, rfl, rfl⟩
  | k + 1 => by
    obtain ⟨h1, h2, h3, h4, h5⟩ := run_L hv hA k
    have q := run_step hv hA k
    exact ⟨fun i => (q.la i).trans (h1 i), fun i => (q.lo i).trans (h2 i), q.na.trans h3, q.no.trans h4, q.W.trans h5⟩
end Go.Bg
namespace Go.Proofs.Ytkhlmicogdjmlaa
open Go.V Go.RowKit Go.L Go.Lx Go.Rt Go.Bg
theorem bg_bv (l : List Int) : BV (bg l) := by
  have h1 := bg_len l
  refine ⟨fun i hi => ?_, fun i hi => ?_⟩
  · rw [h1.1] at hi
    show Av ((accs (bgP l)).getD i accZ)
    rw [accs_get (by rw [costs_len]; exact hi), costs_get hi]
    exact av_new (costAt_val l 3 12 i (by decide))
  · rw [h1.2] at hi
    show Av ((accs (bgO l)).getD i accZ)
    rw [accs_get (by rw [costs_len]; exact hi), costs_get hi]
    exact av_new (costAt_val l 5 30 i (by decide))
end Go.Proofs.Ytkhlmicogdjmlaa
