
/- Budgets: the plain law of an ask. -/
import Derived.Test.YtkhlmicogdjmlaaRk
set_option linter.unusedSimpArgs false
set_option linter.unusedVariables false
namespace Go.Bg
open Go.Rt Go.Lx
theorem kn_zero {b : Bk} {bf : List Int} {p : Int} (h : kn b bf p = 0) : 0 ≤ p ∧ p < b.A.length := by
  unfold kn at h
  by_cases h1 : p < 0 ∨ (b.A.length : Int) ≤ p
  · rw [if_pos h1] at h; cases h
  · omega
theorem knL_all {b : Bk} {l : List Int} : ∀ {n k : Nat}, knL b l k n = 0 → ∀ j, k ≤ j → j < k + n → kn b (l.take j) (l.getD j 0) = 0
  | 0, k, _, j, h1, h2 => by omega
  | n + 1, k, h, j, h1, h2 => by
    unfold knL at h
    by_cases hk : kn b (l.take k) (l.getD k 0) ≠ 0
    · rw [if_pos hk] at h; exact absurd h hk
    · rw [if_neg hk] at h
      by_cases e : j = k
      · subst e; exact Decidable.byContradiction hk
      · exact knL_all h j (by omega) (by omega)
theorem acV_ok {a : Acc} {c : Rq} (ha : AOk a) (hc : isCost c = true) (h : acE a c = 0) : AOk (acV a c) := ⟨ha.l, add_cost ha.u (cost_iff.1 hc) h⟩
theorem set_ok {A : List Acc} {i : Nat} {v : Acc} (h : ∀ x ∈ A, AOk x) (hv : AOk v) : ∀ x ∈ A.set i v, AOk x := fun x hx => by
  rcases List.mem_or_eq_of_mem_set hx with h1 | h1
  · exact h x h1
  · rw [h1]; exact hv
theorem get_ok {A : List Acc} {i : Nat} (h : ∀ x ∈ A, AOk x) (hi : i < A.length) : AOk (A.getD i accZ) := h _ (getD_mem hi)
theorem chg_step {A : List Acc} {ov : Bool} {c : Rq} {l : List Int} {k : Nat} (hk : k < l.length) : chg A ov c (l.drop k) = (if acE (A.getD (l.getD k 0).toNat accZ) c ≠ 0 then ⟨acE (A.getD (l.getD k 0).toNat accZ) c, A, ov⟩ else chg (A.set (l.getD k 0).toNat (acV (A.getD (l.getD k 0).toNat accZ) c)) (ov || acO (A.getD (l.getD k 0).toNat accZ) c) c (l.drop (k + 1))) := by
  rw [drop_step (d := 0) hk]; rfl
/-- The persons' accounts after so many of them were charged. -/
def chK (b : Bk) (l : List Int) (c : Rq) : Nat → List Acc × Bool
  | 0 => (b.A, false)
  | k + 1 => ((chK b l c k).1.set (l.getD k 0).toNat (acV ((chK b l c k).1.getD (l.getD k 0).toNat accZ) c), (chK b l c k).2 || acO ((chK b l c k).1.getD (l.getD k 0).toNat accZ) c)
theorem cnt_step {W l : List Int} {k : Nat} (hk : k < l.length) (o : Nat) : cnt W (l.take (k + 1)) o = cnt W (l.take k) o + if W.getD (l.getD k 0).toNat 0 = (o : Int) then 1 else 0 := by
  unfold cnt
  rw [take_snoc (d := 0) hk, List.filter_append, List.length_append]
  congr 1
  by_cases h : W.getD (l.getD k 0).toNat 0 = (o : Int)
  · rw [if_pos h, List.filter_cons_of_pos (by simpa using h)]; rfl
  · rw [if_neg h, List.filter_cons_of_neg (by simpa using h)]; rfl
/-- The owners' accounts before an owner is charged. -/
def chOK (b : Bk) (l : List Int) (c : Rq) (ov0 : Bool) : Nat → List Acc × Bool
  | 0 => (b.O, ov0)
  | o + 1 => if cnt b.W l o = 0 then chOK b l c ov0 o else ((chOK b l c ov0 o).1.set o (acV ((chOK b l c ov0 o).1.getD o accZ) (shr c (cnt b.W l o) l.length)), (chOK b l c ov0 o).2 || acO ((chOK b l c ov0 o).1.getD o accZ) (shr c (cnt b.W l o) l.length))
theorem shr_cost {c : Rq} {k n : Nat} (hc : isCost c = true) (h1 : 0 < k) (h2 : k ≤ n) (h3 : n ≤ 256) (h : shrE c k n = 0) : isCost (shr c k n) = true :=
  cost_iff.2 (mul_cost (cost_iff.1 hc) (mk_small h1 h2 h3).2 h)
theorem ask_bad {b : Bk} {l : List Int} {c : Rq} (h : l = [] ∨ isCost c = false) : askE b l c = 1 := if_pos h
theorem ask_kn {b : Bk} {l : List Int} {c : Rq} (h : ¬ (l = [] ∨ isCost c = false)) (hk : knE b l ≠ 0) : askE b l c = knE b l := by
  unfold askE; rw [if_neg h, if_pos hk]
theorem ask_P {b : Bk} {l : List Int} {c : Rq} (h : ¬ (l = [] ∨ isCost c = false)) (hk : knE b l = 0) (hp : (askP b l c).e ≠ 0) : askE b l c = (askP b l c).e := by
  unfold askE; rw [if_neg h, if_neg (fun x => x hk), if_pos hp]
theorem ask_O {b : Bk} {l : List Int} {c : Rq} (h : ¬ (l = [] ∨ isCost c = false)) (hk : knE b l = 0) (hp : (askP b l c).e = 0) (ho : (askO b l c).e ≠ 0) : askE b l c = (askO b l c).e := by
  unfold askE; rw [if_neg h, if_neg (fun x => x hk), if_neg (fun x => x hp), if_pos ho]
theorem ask_end {b : Bk} {l : List Int} {c : Rq} (h : ¬ (l = [] ∨ isCost c = false)) (hk : knE b l = 0) (hp : (askP b l c).e = 0) (ho : (askO b l c).e = 0) : askE b l c = if (askO b l c).ov = true then 22 else 0 := by
  unfold askE; rw [if_neg h, if_neg (fun x => x hk), if_neg (fun x => x hp), if_neg (fun x => x ho)]
end Go.Bg
