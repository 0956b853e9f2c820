/- Flow: what Least gives; its cycles as the entries tell them. Plain. Flow: the reference's way. Flow: the reference's first circulation. Flow: the reference's Cheaper. Flow: Least of the reference, its cost. -/
import Derived.Test.YtkpidpmlehkjbaaWv
import Derived.Test.YtkpidpmlehkjbaaWr
set_option linter.unusedSimpArgs false
set_option linter.unusedVariables false
namespace Go.Fl
open Go.V (mFind mSet)
def los (l : List Ed) : List Int := l.map fun e => e.lo
def fq (n : Nat) (l : List Ed) : Nat := (exc n l (los l)).toNat + 1
def fc (l : List Ed) : Nat := 2 * (l.length * 1000000) + 1
structure R4 where
  (F L S : List Int) (e : Int)
/-- What Least gives of a network that is one; of any. -/
def lstO (n : Nat) (l : List Ed) : R4 := match bln n l (fq n l) (los l) with
  | (F, some v) => ⟨[], [], (((List.range n).filter fun w : Nat => blkS n l F v (w : Int)).map fun w : Nat => (w : Int)), 14⟩
  | (F, none) => ⟨can 1000 n l (fc l) F, (List.range n).map (lvs n l (can 1000 n l (fc l) F)).lev, [], 0⟩
def lst (n : Int) (l : List Ed) : R4 := if givenE n l ≠ 0 then ⟨[], [], [], givenE n l⟩ else lstO n.toNat l
theorem los_in : ∀ {l : List Ed}, (∀ e ∈ l, e.lo ≤ e.hi) → inB l (los l)
  | [], _ => trivial
  | e :: l, h => ⟨Int.le_refl _, h e (by simp), los_in (fun x hx => h x (by simp [hx]))⟩
theorem given_net {n : Int} {l : List Ed} (h : givenE n l = 0) : 0 ≤ n ∧ NetOk n.toNat l ∧ l.length ≤ 256 := by
  unfold givenE at h
  split at h
  · cases h
  · rename_i h1
    split at h
    · cases h
    · rename_i h2
      split at h
      · cases h
      · rename_i h3
        refine ⟨by omega, ⟨by omega, by omega, fun e he => ?_⟩, by omega⟩
        have h4 : ¬ edBad n e = true := fun hb => h3 (List.any_eq_true.2 ⟨e, he, hb⟩)
        unfold edBad at h4
        rw [decide_eq_true_eq] at h4
        omega
theorem NetOk.cost {n : Nat} {l : List Ed} (ok : NetOk n l) {F : List Int} (hF : inB l F) : -((l.length : Int) * 1000000) ≤ cost l F ∧ cost l F ≤ (l.length : Int) * 1000000 := by
  have := cost_low (C := 1000) (H := 1000) (by omega) hF (fun e he => by have := ok.ed e he; omega)
  omega
/-- Steps back to a node, as the entries tell them. -/
theorem along_bk {n : Nat} {l : List Ed} {F : List Int} {s : Bf} {E : List (Int × Nat)} (hE : EntOf s E) (hn : nodes n l) (ha : ∀ v, v < n → 0 ≤ s.par v → (s.par v).toNat < 2 * l.length) {z : Nat} :
    ∀ k w, (∀ i, it (netOf n l F) s i w < n ∧ 0 ≤ s.par (it (netOf n l F) s i w)) → it (netOf n l F) s (k + 1) w = z → (∀ i, 0 < i → i < k + 1 → it (netOf n l F) s i w ≠ z) → Along l E (z : Int) (w : Int) (bk (netOf n l F) s (k + 1) w)
  | k, w, h1, h2, h3 => by
    obtain ⟨a1, a2⟩ := h1 0
    have a1 : w < n := a1
    have a2 : 0 ≤ s.par w := a2
    have a3 := ha w a1 a2
    have hpr : ((pr (netOf n l F) s w : Nat) : Int) = aF l (s.par w).toNat := by
      show (((aF l (s.par w).toNat).toNat : Nat) : Int) = _
      exact Int.toNat_of_nonneg (arc_in hn a3).2.1
    refine ⟨by rw [hE w, if_pos a2], ?_⟩
    cases k with
    | zero =>
      refine .inl ⟨rfl, ?_⟩
      rw [← hpr, ← h2]; rfl
    | succ k =>
      refine .inr ⟨by rw [bk]; simp, ?_, ?_⟩
      · rw [← hpr]
        intro e
        exact h3 1 (by omega) (by omega) (by show pr _ s w = z; omega)
      · rw [← hpr]
        exact along_bk hE hn ha k (pr (netOf n l F) s w) (fun i => h1 (i + 1)) h2 (fun i hi hk => h3 (i + 1) (by omega) (by omega))
/-- A round of Least that finds a cycle: what is pushed, along what. -/
theorem cyc_ok {n : Nat} {l : List Ed} {F : List Int} (hn : nodes n l) (hF : inB l F) (hc : circ n l F) (hl : ¬ (lvs n l F).last < 0) :
    it (netOf n l F) (lvs n l F) n (lvs n l F).last.toNat < n ∧ Along l (rndsE (netOf n l F) (n + 1)) (it (netOf n l F) (lvs n l F) n (lvs n l F).last.toNat : Nat) (it (netOf n l F) (lvs n l F) n (lvs n l F).last.toNat : Nat) (cyc n l F) ∧ (∀ x ∈ cyc n l F, x < 2 * l.length ∧ 0 < aR l F x) ∧ ((cyc n l F).map (· / 2)).Nodup := by
  obtain ⟨t, hI⟩ := inv_rnds (netOk F hn) n
  obtain ⟨z, v, K, z1, z2, z3, z4, z5, z6, z7, z8, z9, z10, z11, z12⟩ := neg_cycle hn hI hl
  have hE := entOf_rnds (netOf n l F) (n + 1)
  have hz : (lvs n l F).last.toNat = z := by
    have : (lvs n l F).last = (z : Int) := z1
    omega
  rw [hz]
  have hv : it (netOf n l F) (lvs n l F) n z = v := z4
  have hcyc : cyc n l F = bk (netOf n l F) (lvs n l F) K v := by
    unfold cyc
    show bk (netOf n l F) (lvs n l F) (per (netOf n l F) (lvs n l F) (it (netOf n l F) (lvs n l F) n (lvs n l F).last.toNat)) (it (netOf n l F) (lvs n l F) n (lvs n l F).last.toNat) = _
    rw [hz, hv, show per (netOf n l F) (lvs n l F) v = K from per_eq z5 z6 z7 z8]
  rw [hv, hcyc]
  refine ⟨by rw [← z4]; exact (z3 n).1, ?_, z10, z11⟩
  obtain ⟨k, rfl⟩ : ∃ k, K = k + 1 := ⟨K - 1, by omega⟩
  refine along_bk hE hn (fun v hv h0 => (hI.a v hv h0).1) k v (fun i => ?_) z7 z8
  have := z3 (n + i)
  rw [it_add, z4] at this
  exact this
end Go.Fl

namespace Go.Fl
end Go.Fl
namespace Go.Proofs.Ytkpidpmlehkjbaa
open Go.V Go.RowKit Go.L Go.Lx Go.Fl
set_option maxRecDepth 10000
set_option maxHeartbeats 4000000
end Go.Proofs.Ytkpidpmlehkjbaa

namespace Go.Fl
end Go.Fl
namespace Go.Proofs.Ytkpidpmlehkjbaa
open Go.V Go.RowKit Go.L Go.Lx Go.Fl
set_option maxRecDepth 10000
set_option maxHeartbeats 4000000
abbrev lsV (l : List Int) : AV := .rsl true l.length 1 (fun i => .int .i64 (l.getD i 0))
theorem viewT_li {H : Asc} {id n : Nat} {l : List Int} {f : Nat → AV} (h : get? H id = some (.arr n 1 f)) (hl : l.length = n) (hf : ∀ i, i < n → f i = .int .i64 (l.getD i 0)) : ViewT H (lsV l) (.sl id [] 1 0 n) :=
  ViewT.sl h rfl trivial (by omega) hl fun i hi => .rel (by rw [Nat.zero_add, hf i (by omega)]; exact NoId.self NI_)
end Go.Proofs.Ytkpidpmlehkjbaa

namespace Go.Fl
end Go.Fl
namespace Go.Proofs.Ytkpidpmlehkjbaa
open Go.V Go.RowKit Go.L Go.Lx Go.Fl
set_option maxRecDepth 10000
set_option maxHeartbeats 4000000
end Go.Proofs.Ytkpidpmlehkjbaa

namespace Go.Fl
end Go.Fl
namespace Go.Proofs.Ytkpidpmlehkjbaa
open Go.V Go.RowKit Go.L Go.Lx Go.Fl
set_option maxRecDepth 10000
set_option maxHeartbeats 4000000
end Go.Proofs.Ytkpidpmlehkjbaa
