
/- Budgets: the plain law. -/
import Derived.Test.YtkhlmicogdjmlaaLa
import Derived.Test.YtkhlmicogdjmlaaRa
set_option linter.unusedSimpArgs false
set_option linter.unusedVariables false
namespace Go.Bg
open Go.Rt Go.Lx
/-- An account: its limit, what is used of it. -/
structure Acc where
  L : Rq
  U : Rq
abbrev accZ : Acc := ⟨rz, rz⟩
structure Bk where
  A : List Acc
  O : List Acc
  W : List Int
  R : List Bool
def isCost (r : Rq) : Bool := valid r && decide (0 ≤ r.P)
def accs (l : List Rq) : List Acc := l.map fun r => ⟨r, rz⟩
def newE (p : List Rq) (w : List Int) (o : List Rq) : Int :=
  if 256 < p.length ∨ 16 < o.length then 4
  else if w.length ≠ p.length ∨ (w.any fun x => decide (x < 0 ∨ (o.length : Int) ≤ x)) = true ∨ (p.any fun r => !isCost r) = true ∨ (o.any fun r => !isCost r) = true then 1 else 0
def newB (p : List Rq) (w : List Int) (o : List Rq) : Bk := ⟨accs p, accs o, w, List.replicate p.length false⟩
/-- The error of one who is asked. -/
def kn (b : Bk) (before : List Int) (p : Int) : Int := if p < 0 ∨ (b.A.length : Int) ≤ p then 6 else if p ∈ before then 7 else if b.R.getD p.toNat false = true then 24 else 0
def knL (b : Bk) (l : List Int) : Nat → Nat → Int
  | _, 0 => 0
  | k, n + 1 => if kn b (l.take k) (l.getD k 0) ≠ 0 then kn b (l.take k) (l.getD k 0) else knL b l (k + 1) n
/-- The error of those who are asked. -/
def knE (b : Bk) (l : List Int) : Int := knL b l 0 l.length
/-- An account that is charged. -/
def acE (a : Acc) (c : Rq) : Int := addE a.U c
def acV (a : Acc) (c : Rq) : Acc := ⟨a.L, addV a.U c⟩
def acO (a : Acc) (c : Rq) : Bool := decide (0 < cmpR (addV a.U c) a.L)
structure Ch where
  e : Int
  A : List Acc
  ov : Bool
/-- A charge of the accounts in some places, one after the other; it ends at an error. -/
def chg (A : List Acc) (ov : Bool) (c : Rq) : List Int → Ch
  | [] => ⟨0, A, ov⟩
  | p :: r => if acE (A.getD p.toNat accZ) c ≠ 0 then ⟨acE (A.getD p.toNat accZ) c, A, ov⟩ else chg (A.set p.toNat (acV (A.getD p.toNat accZ) c)) (ov || acO (A.getD p.toNat accZ) c) c r
/-- How many of those who are asked have an owner. -/
def cnt (W : List Int) (l : List Int) (o : Nat) : Nat := (l.filter fun p => decide (W.getD p.toNat 0 = (o : Int))).length
def shr (c : Rq) (k n : Nat) : Rq := mulV c (mkV k n)
def shrE (c : Rq) (k n : Nat) : Int := mulE c (mkV k n)
/-- A charge of the owners from o on. -/
def chO (W : List Int) (l : List Int) (c : Rq) : Nat → Nat → List Acc → Bool → Ch
  | _, 0, A, ov => ⟨0, A, ov⟩
  | o, n + 1, A, ov =>
    if cnt W l o = 0 then chO W l c (o + 1) n A ov
    else if shrE c (cnt W l o) l.length ≠ 0 then ⟨shrE c (cnt W l o) l.length, A, ov⟩
    else if acE (A.getD o accZ) (shr c (cnt W l o) l.length) ≠ 0 then ⟨acE (A.getD o accZ) (shr c (cnt W l o) l.length), A, ov⟩
    else chO W l c (o + 1) n (A.set o (acV (A.getD o accZ) (shr c (cnt W l o) l.length))) (ov || acO (A.getD o accZ) (shr c (cnt W l o) l.length))
def askP (b : Bk) (l : List Int) (c : Rq) : Ch := chg b.A false c l
def askO (b : Bk) (l : List Int) (c : Rq) : Ch := chO b.W l c 0 b.O.length b.O (askP b l c).ov
def askE (b : Bk) (l : List Int) (c : Rq) : Int :=
  if l = [] ∨ isCost c = false then 1 else if knE b l ≠ 0 then knE b l else if (askP b l c).e ≠ 0 then (askP b l c).e else if (askO b l c).e ≠ 0 then (askO b l c).e else if (askO b l c).ov = true then 22 else 0
def askB (b : Bk) (l : List Int) (c : Rq) : Bk := if askE b l c = 0 then ⟨(askP b l c).A, (askO b l c).A, b.W, b.R⟩ else b
def rmE (b : Bk) (p : Int) : Int := if p < 0 ∨ (b.A.length : Int) ≤ p then 6 else if b.R.getD p.toNat false = true then 7 else 0
def rmB (b : Bk) (p : Int) : Bk := if rmE b p = 0 then ⟨b.A, b.O, b.W, b.R.set p.toNat true⟩ else b
def usE (l : List Acc) (i : Int) : Int := if i < 0 ∨ (l.length : Int) ≤ i then 6 else 0
def usV (l : List Acc) (i : Int) : Rq := if i < 0 ∨ (l.length : Int) ≤ i then rz else (l.getD i.toNat accZ).U
/-- What accounts are always. -/
structure AOk (a : Acc) : Prop where
  l : valid a.L = true ∧ 0 ≤ a.L.P
  u : valid a.U = true ∧ 0 ≤ a.U.P
structure BOk (b : Bk) : Prop where
  na : b.A.length ≤ 256
  no : b.O.length ≤ 16
  a : ∀ x ∈ b.A, AOk x
  o : ∀ x ∈ b.O, AOk x
  w : b.W.length = b.A.length ∧ ∀ x ∈ b.W, 0 ≤ x ∧ x < b.O.length
  r : b.R.length = b.A.length
theorem cost_iff {r : Rq} : isCost r = true ↔ valid r = true ∧ 0 ≤ r.P := by
  unfold isCost; rw [Bool.and_eq_true, decide_eq_true_eq]
theorem accs_len (l : List Rq) : (accs l).length = l.length := List.length_map _
theorem valid_r64 {r : Rq} (h : valid r = true) : R64 r := by
  have hb := valid_b h
  refine ⟨⟨by omega, by omega⟩, ?_⟩
  rcases valid_iff.1 h with rfl | h
  · exact ⟨by decide, by decide⟩
  · exact ⟨by omega, by omega⟩
theorem mkV_nn {p q : Int} (hp : 0 ≤ p) (hq : 0 < q) (h : mkErr p q = 0) : 0 ≤ (mkV p q).P := by
  rw [show mkV p q = _ from if_pos h]
  show 0 ≤ (if (decide (p < 0) != decide (q < 0)) = true then -(Rt.absI p / gI (Rt.absI p) (Rt.absI q)) else Rt.absI p / gI (Rt.absI p) (Rt.absI q))
  rw [if_neg (by simp; omega)]
  exact Int.ediv_nonneg (absI_nn _) (gI_nn _ _)
/-- Sums of costs are costs. -/
theorem add_cost {a c : Rq} (ha : valid a = true ∧ 0 ≤ a.P) (hc : valid c = true ∧ 0 ≤ c.P) (h : addE a c = 0) : valid (addV a c) = true ∧ 0 ≤ (addV a c).P := by
  have hb : both a c = true := by unfold both; rw [ha.1, hc.1]; rfl
  unfold addE at h
  rw [if_pos hb] at h
  have hv : addV a c = mkV (addP a c) (addQ a c) := if_pos hb
  rw [hv]
  obtain ⟨⟨a1, a2⟩, _⟩ := valid_b ha.1
  obtain ⟨⟨c1, c2⟩, _⟩ := valid_b hc.1
  obtain ⟨f1, f2, f3⟩ := add_fit ha.1 hc.1
  obtain ⟨g1, g2, g3, g4⟩ := add_bd ha.1 hc.1
  have hq0 : addQ a c ≠ 0 := fun e => by unfold mkErr at h; rw [if_pos e] at h; cases h
  have hq : 0 < addQ a c := by omega
  refine ⟨mkV_valid hq h, ?_⟩
  have hp : 0 ≤ addP a c := by
    unfold addP
    have := Int.mul_nonneg ha.2 f1.1
    have := Int.mul_nonneg hc.2 f2.1
    omega
  exact mkV_nn hp hq h
theorem mul_cost {a c : Rq} (ha : valid a = true ∧ 0 ≤ a.P) (hc : valid c = true ∧ 0 ≤ c.P) (h : mulE a c = 0) : valid (mulV a c) = true ∧ 0 ≤ (mulV a c).P := by
  have hb : both a c = true := by unfold both; rw [ha.1, hc.1]; rfl
  unfold mulE at h
  rw [if_pos hb] at h
  rw [show mulV a c = mkV (a.P * c.P) (den a * den c) from if_pos hb]
  obtain ⟨⟨a1, a2⟩, _⟩ := valid_b ha.1
  obtain ⟨⟨c1, c2⟩, _⟩ := valid_b hc.1
  have hq : 0 < den a * den c := Int.mul_pos (by omega) (by omega)
  refine ⟨mkV_valid hq h, ?_⟩
  have hp : 0 ≤ a.P * c.P := Int.mul_nonneg ha.2 hc.2
  exact mkV_nn hp hq h
theorem mk_small {k n : Nat} (h1 : 0 < k) (h2 : k ≤ n) (h3 : n ≤ 256) : mkErr k n = 0 ∧ valid (mkV k n) = true ∧ 0 ≤ (mkV k n).P := by
  have hk : Rt.absI (k : Int) = k := if_neg (by omega)
  have hn : Rt.absI (n : Int) = n := if_neg (by omega)
  have hg := gI_pos (x := (k : Int)) (y := (n : Int)) (.inl (by omega))
  have d1 := div_le (a := (k : Int)) (g := gI k n) (by omega) hg
  have d2 := div_le (a := (n : Int)) (g := gI k n) (by omega) hg
  have he : mkErr k n = 0 := by
    unfold mkErr
    rw [if_neg (by omega), hk, hn, if_neg (by omega)]
  exact ⟨he, mkV_valid (by omega) he, mkV_nn (by omega) (by omega) he⟩
theorem cnt_le (W l : List Int) (o : Nat) : cnt W l o ≤ l.length := List.length_filter_le _ _
end Go.Bg
