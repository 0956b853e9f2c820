/- The plain law of disks: what each method does, in lists. No program in sight. Weights of releases: the plain law. Numbers that hide counts; plain. Hidings: weights. -/
import Derived.Test.YtdbebdjnpckfdaaDoorFe
import Derived.Test.YtdbebdjnpckfdaaDoorQa
import Derived.Test.YtdbebdjnpckfdaaDoorRa
import Derived.Test.YtdbebdjnpckfdaaDoorFs
set_option linter.unusedSimpArgs false
set_option linter.unusedVariables false
namespace Go.Dk
open Go.V (mFind mSet mDel)
abbrev Bs := List UInt8
abbrev PM := List (Int × Bs)
abbrev WM := List (Int × Bool)
structure Disk where
  B : List Bs
  P : PM
  W : WM
  off : Bool
  left : Int
/-- Is there no such sector? -/
def bad (n : Nat) (i : Int) : Prop := i < 0 ∨ (n : Int) ≤ i
instance (n : Nat) (i : Int) : Decidable (bad n i) := by unfold bad; infer_instance
def check (D : Disk) (i : Int) : Int := if D.off = true then 20 else if bad D.B.length i then 1 else 0
def step (D : Disk) : Disk × Int := if D.left = 0 then ({ D with off := true }, 20) else if 0 < D.left then ({ D with left := D.left - 1 }, 0) else (D, 0)
def write (D : Disk) (i : Int) (s : Bs) : Disk × Int :=
  if check D i ≠ 0 then (D, check D i) else if s.length ≠ 64 then (D, 1) else if (step D).2 ≠ 0 then step D else ({ (step D).1 with P := mSet (step D).1.P i s }, 0)
def sortI (l : List Int) : List Int := l.mergeSort (fun x y => decide (x ≤ y))
def pending (D : Disk) : List Int := sortI (D.P.map (·.1))
/-- A bit of a sector inverted. -/
def flip (b : Bs) (k : Nat) : Bs := b.set (k / 8) (b.getD (k / 8) 0 ^^^ UInt8.ofNat (2 ^ (k % 8)))
def rotBad (n : Nat) (i bit : Int) : Prop := bad n i ∨ bit < 0 ∨ 512 ≤ bit
instance (n : Nat) (i bit : Int) : Decidable (rotBad n i bit) := by unfold rotBad; infer_instance
def rot (D : Disk) (i bit : Int) : Disk × Int := if rotBad D.B.length i bit then (D, 1) else ({ D with B := D.B.set i.toNat (flip (D.B.getD i.toNat []) bit.toNat) }, 0)
/-- What a disk is always. -/
structure WF (D : Disk) : Prop where
  n0 : 0 < D.B.length
  n1 : D.B.length ≤ 4096
  b64 : ∀ b ∈ D.B, b.length = 64
  p64 : ∀ q ∈ D.P, q.2.length = 64
  pin : ∀ q ∈ D.P, ¬ bad D.B.length q.1
  pnd : (D.P.map (·.1)).Nodup
  win : ∀ q ∈ D.W, ¬ bad D.B.length q.1
  wnd : (D.W.map (·.1)).Nodup
  wt : ∀ q ∈ D.W, q.2 = true
  l64 : -9223372036854775808 ≤ D.left ∧ D.left ≤ 9223372036854775807
section
variable {κ ν : Type} [DecidableEq κ]
theorem mFind_mSet {l : List (κ × ν)} {k k' : κ} {v : ν} : mFind (mSet l k v) k' = if k = k' then some v else mFind l k' := by
  induction l with
  | nil => rw [mSet, mFind]; rfl
  | cons p r ih =>
    rw [mSet]
    by_cases h : p.1 = k
    · rw [if_pos h, mFind, mFind]
      by_cases h2 : k = k'
      · simp [h2]
      · simp only [h2, if_false]; rw [h]; simp only [h2, if_false]
    · rw [if_neg h, mFind, mFind, ih]
      by_cases h2 : k = k'
      · subst h2; simp [h]
      · simp [h2]
end
end Go.Dk

namespace Go.Rl
open Go.V Go.Lx
/-- A power of 2. -/
def pw (n : Int) : Int := 2 ^ n.toNat
theorem pw_pos (n : Int) : 1 ≤ pw n := by
  unfold pw
  have : (0 : Int) < 2 ^ n.toNat := Int.pow_pos (by decide)
  omega
theorem pw_mono {a b : Int} (h : a ≤ b) : pw a ≤ pw b := by
  unfold pw
  have h1 : a.toNat ≤ b.toNat := by omega
  have h2 : (2 : Nat) ^ a.toNat ≤ 2 ^ b.toNat := Nat.pow_le_pow_right (by decide) h1
  exact_mod_cast h2
theorem pw_add {a b : Int} (ha : 0 ≤ a) (hb : 0 ≤ b) : pw (a + b) = pw a * pw b := by
  unfold pw
  rw [Int.toNat_add ha hb, Int.pow_add]
theorem pw_38 {n : Int} (h : n ≤ 38) : pw n ≤ 274877906944 := Int.le_trans (pw_mono h) (by decide)
/-- How far a number is from the true one. -/
def apart (c x : Int) : Int := max (x - c) (c - x)
def wt (c m k x : Int) : Int := if x = 0 ∨ x = m then pw (k * (m - apart c x)) * pw k else pw (k * (m - apart c x)) * (pw k - 1)
def wts (c m k : Int) : List Int := (List.range (m + 1).toNat).map fun x : Nat => wt c m k x
structure Fits (m k : Int) : Prop where
  fm : 1 ≤ m ∧ m ≤ 37
  fk : 1 ≤ k ∧ k ≤ 12
  fs : k * (m + 1) ≤ 38
instance (m k : Int) : Decidable (Fits m k) := decidable_of_iff ((1 ≤ m ∧ m ≤ 37) ∧ (1 ≤ k ∧ k ≤ 12) ∧ k * (m + 1) ≤ 38) ⟨fun h => ⟨h.1, h.2.1, h.2.2⟩, fun h => ⟨h.fm, h.fk, h.fs⟩⟩
theorem apart_le {c m x : Int} (hc : 0 ≤ c ∧ c ≤ m) (hx : 0 ≤ x ∧ x ≤ m) : 0 ≤ apart c x ∧ apart c x ≤ m := by
  unfold apart
  omega
theorem exp_le {m k : Int} (h : Fits m k) {d : Int} (hd : 0 ≤ d ∧ d ≤ m) : 0 ≤ k * (m - d) ∧ k * (m - d) + k ≤ 38 := by
  have h1 := h.fk
  have h2 : k * (m - d) ≤ k * m := Int.mul_le_mul_of_nonneg_left (by omega) (by omega)
  have h3 : k * (m + 1) = k * m + k := by rw [Int.mul_add, Int.mul_one]
  have h4 := h.fs
  exact ⟨Int.mul_nonneg (by omega) (by omega), by omega⟩
theorem wt_bd {c m k x : Int} (h : Fits m k) (hc : 0 ≤ c ∧ c ≤ m) (hx : 0 ≤ x ∧ x ≤ m) : 1 ≤ wt c m k x ∧ wt c m k x ≤ 274877906944 := by
  obtain ⟨e1, e2⟩ := exp_le h (apart_le hc hx)
  have h1 := h.fk
  have h2 := pw_pos (k * (m - apart c x))
  have h3 : 2 ≤ pw k := Int.le_trans (show (2 : Int) ≤ pw 1 by decide) (pw_mono h1.1)
  have h4 : pw (k * (m - apart c x)) * pw k ≤ 274877906944 := by rw [← pw_add e1 (by omega)]; exact pw_38 e2
  have h5 : 1 * 1 ≤ pw (k * (m - apart c x)) * (pw k - 1) := Int.mul_le_mul h2 (by omega) (by decide) (by omega)
  have h6 : pw (k * (m - apart c x)) * (pw k - 1) = pw (k * (m - apart c x)) * pw k - pw (k * (m - apart c x)) := by rw [Int.mul_sub, Int.mul_one]
  unfold wt
  split <;> omega
theorem wts_len (c m k : Int) : (wts c m k).length = (m + 1).toNat := by unfold wts; rw [List.length_map, List.length_range]
theorem wts_get {c m k : Int} {x : Nat} (h : (x : Int) ≤ m) : (wts c m k).getD x 0 = wt c m k x := by
  unfold wts
  rw [List.getD_eq_getElem?_getD, List.getElem?_map, List.getElem?_range (by omega)]; rfl
def most (k : Int) : Int := 38 / k - 1
theorem most_fits {k : Int} (h : 1 ≤ k ∧ k ≤ 12) : Fits (most k) k ∧ 2 ≤ most k := by
  unfold most
  obtain ⟨h1, h2⟩ := h
  have h3 : k = 1 ∨ k = 2 ∨ k = 3 ∨ k = 4 ∨ k = 5 ∨ k = 6 ∨ k = 7 ∨ k = 8 ∨ k = 9 ∨ k = 10 ∨ k = 11 ∨ k = 12 := by omega
  rcases h3 with rfl | rfl | rfl | rfl | rfl | rfl | rfl | rfl | rfl | rfl | rfl | rfl <;> exact ⟨⟨by decide, by decide, by decide⟩, by decide⟩
/-- How many of the first rows have a value in a field. -/
def cntTo (R : List Row) (f : Nat) (v : Int) : Nat → Nat
  | 0 => 0
  | i + 1 => if (R.getD i rowZ).V.getD f 0 = v then cntTo R f v i + 1 else cntTo R f v i
def cnt (R : List Row) (f : Nat) (v : Int) : Nat := cntTo R f v R.length
theorem cntTo_le (R : List Row) (f : Nat) (v : Int) : ∀ i, cntTo R f v i ≤ i
  | 0 => Nat.le_refl _
  | i + 1 => by
    have := cntTo_le R f v i
    rw [cntTo]; split <;> omega
def mGet (l : List (Int × Int)) (v : Int) : Int := (mFind l v).getD 0
/-- How many rows have a value, as a map. -/
def manyTo (R : List Row) (f : Nat) : Nat → List (Int × Int)
  | 0 => []
  | i + 1 => mSet (manyTo R f i) ((R.getD i rowZ).V.getD f 0) (mGet (manyTo R f i) ((R.getD i rowZ).V.getD f 0) + 1)
theorem many_get (R : List Row) (f : Nat) (v : Int) : ∀ i, mGet (manyTo R f i) v = cntTo R f v i
  | 0 => rfl
  | i + 1 => by
    rw [manyTo, cntTo]
    unfold mGet
    rw [Go.Dk.mFind_mSet]
    split
    · rename_i h
      show mGet (manyTo R f i) _ + 1 = _
      rw [h, many_get R f v i]; simp
    · exact many_get R f v i
def checkE (t : Tab) (f k : Int) : Int := if okE t ≠ 0 then okE t else if f < 0 ∨ t.S.length ≤ f then 6 else if k < 1 ∨ 12 < k then 5 else 0
def badL (k : Int) (l : List Int) : Bool := l.any fun n => decide (n < 0 ∨ most k < n)
def weightE (t : Tab) (f k : Int) (l : List Int) : Int :=
  if checkE t f k ≠ 0 then checkE t f k else if (l.length : Int) ≠ t.S.getD f.toNat 0 ∨ badL k l = true then 5 else 0
def wOf (R : List Row) (f k : Int) (l : List Int) (v : Nat) : Int := wt (min (most k) (cnt R f.toNat v)) (most k) k (l.getD v 0)
def weightL (t : Tab) (f k : Int) (l : List Int) : List Int := if weightE t f k l = 0 then (List.range l.length).map (wOf t.R f k l) else []
end Go.Rl

namespace Go.Rl
open Go.V Go.Lx
def nN (m k : Int) : Int := (pw k + 1) * pw (k * m)
theorem nN_bd {m k : Int} (h : Fits m k) : 1 ≤ nN m k ∧ nN m k ≤ 549755813888 := by
  have h1 := h.fk
  have h2 := h.fm
  have h3 := h.fs
  have h4 : k * (m + 1) = k * m + k := by rw [Int.mul_add, Int.mul_one]
  have h5 : 0 ≤ k * m := Int.mul_nonneg (by omega) (by omega)
  have h6 : pw k * pw (k * m) = pw (k * m + k) := by rw [pw_add h5 (by omega), Int.mul_comm]
  have h7 := pw_38 (show k * m + k ≤ 38 by omega)
  have h8 := pw_38 (show k * m ≤ 38 by omega)
  have h9 := pw_pos (k * m)
  have h10 := pw_pos (k * m + k)
  unfold nN
  rw [Int.add_mul, Int.one_mul, h6]
  omega
/-- The first number whose weight is above what is left. -/
def scan (m : Int) : List Int → Int → Nat → Int
  | [], _, _ => m
  | w :: L, r, x => if r < w then (x : Int) else scan m L (r - w) (x + 1)
theorem scan_bd {m : Int} (hm : 0 ≤ m) : ∀ (L : List Int) (r : Int) (x : Nat), (x : Int) + L.length ≤ m + 1 → 0 ≤ scan m L r x ∧ scan m L r x ≤ m
  | [], _, _, _ => ⟨hm, Int.le_refl _⟩
  | w :: L, r, x, h => by
    rw [List.length_cons] at h
    unfold scan
    split
    · omega
    · exact scan_bd hm L (r - w) (x + 1) (by omega)
theorem scan_step {m : Int} {L : List Int} {x : Nat} {r : Int} (h : x < L.length) : scan m (L.drop x) r x = if r < L.getD x 0 then (x : Int) else scan m (L.drop (x + 1)) (r - L.getD x 0) (x + 1) := by
  rw [drop_step (d := 0) h, scan]
/-- The number that hides a count, for a word that was drawn. -/
def noiV (m k c w : Int) : Int := scan m (wts c m k) (w % nN m k) 0
theorem noiV_bd {m k c w : Int} (hm : 0 ≤ m) : 0 ≤ noiV m k c w ∧ noiV m k c w ≤ m := scan_bd hm _ _ 0 (by rw [wts_len]; omega)
end Go.Rl

namespace Go.Rl
open Go.V
theorem shl_pw {a n : Int} (ha : 0 ≤ a) (hn : 0 ≤ n ∧ n ≤ 38) (h : a * pw n ≤ 4611686018427387904) : IntKind.i64.wrap (a * 2 ^ (min n.toNat IntKind.i64.bits)) = a * pw n := by
  have hm : min n.toNat IntKind.i64.bits = n.toNat := by
    show min n.toNat 64 = n.toNat
    omega
  rw [hm]
  have h0 : 0 ≤ a * pw n := Int.mul_nonneg ha (by have := pw_pos n; omega)
  exact wrap_i64_big h0 (by show a * pw n ≤ 9223372036854775807; omega)
end Go.Rl
namespace Go.Proofs.YtdbebdjnpckfdaaDoor
open Go.V Go.RowKit Go.L Go.Lx Go.Rl
set_option maxRecDepth 10000
set_option maxHeartbeats 4000000
abbrev hidA (c m k : Int) : AV := .pair (.int .i64 c) (.pair (.int .i64 m) (.pair (.int .i64 k) .nul))
theorem hweight_ok (c m k x : Int) (hf : Fits m k) (hc : 0 ≤ c ∧ c ≤ m) (hx : 0 ≤ x ∧ x ≤ m) : Ok Tryd.prog 68 [] [] (.pair (hidA c m k) (.pair (.int .i64 x) .nul)) (fun r h' => r = .int .i64 (wt c m k x) ∧ h' = []) := by
  obtain ⟨e1, e2⟩ := exp_le hf (apart_le hc hx)
  have hm := hf.fm
  have hk := hf.fk
  have hd := apart_le hc hx
  have p1 := pw_pos (k * (m - apart c x))
  have p2 := pw_38 (show k * (m - apart c x) ≤ 38 by omega)
  have p3 := pw_pos k
  have p4 := pw_38 (show k ≤ 38 by omega)
  have p5 : pw (k * (m - apart c x)) * pw k ≤ 274877906944 := by rw [← pw_add e1 (by omega)]; exact pw_38 e2
  have p6 : pw (k * (m - apart c x)) * (pw k - 1) = pw (k * (m - apart c x)) * pw k - pw (k * (m - apart c x)) := by rw [Int.mul_sub, Int.mul_one]
  have p7 : 0 ≤ pw (k * (m - apart c x)) * (pw k - 1) := Int.mul_nonneg (by omega) (by omega)
  have s1 := shl_pw (a := 1) (by decide) (n := k * (m - apart c x)) (by omega) (by omega)
  have s2 := shl_pw (a := 1) (by decide) (n := k) (by omega) (by omega)
  rw [Int.one_mul (pw _)] at s1 s2
  have s3 := shl_pw (a := pw (k * (m - apart c x))) (by omega) (n := k) (by omega) (by omega)
  have hw : wt c m k x = if x = 0 ∨ x = m then pw (k * (m - apart c x)) * pw k else pw (k * (m - apart c x)) * (pw k - 1) := rfl
  have hw1 : x = 0 ∨ x = m → pw (k * (m - apart c x)) * pw k = wt c m k x := fun h => by rw [hw, if_pos h]
  have hw2 : ¬ (x = 0 ∨ x = m) → pw (k * (m - apart c x)) * (pw k - 1) = wt c m k x := fun h => by rw [hw, if_neg h]
  generalize wt c m k x = W at *
  generalize pw (k * (m - apart c x)) = A at *
  generalize pw k = K at *
  unfold apart at *
  clear hd hw
  refine Ok.of_vcC tt_ok Tryd.func68 rfl rfl (by show 2 ≤ _; decide) 0 (hlt_ok (by rfl)) fun c0 => ?_
  repeat' (first | (refine SS_ ?_) | (refine Seq.val (max_ok (by rfl) (by rfl)) (by rfl) (by rfl) ?_) | (refine VC.litT (by rfl) LTR_ ?_) | (refine Seq.litC (by rfl) (by rfl) (fun hb => ?_) (fun hb => ?_) <;> (fail_if_success (with_reducible have := litT_ hb)) <;> (fail_if_success (with_reducible have := litF_ hb)) <;> (try simp only [HB_] at hb) <;> (try (exfalso; first | omega | (cases hb; done)))) | (refine VC.cond (by rfl) (fun hb => ?_) (fun hb => ?_) <;> (fail_if_success (with_reducible have := litT_ hb)) <;> (fail_if_success (with_reducible have := litF_ hb)) <;> (try simp only [HB_] at hb) <;> (try (exfalso; first | omega | (cases hb; done)))) | fail)
  · have h1 := hw1 (by omega)
    exact retC_mk [(4, .int .i64 W)] [] 1 (by
      (refine Sim.less [] (by rfl) ?_ ?_ <;> (repeat' (first | (exact EnvLe.nil) | (exact HeapLe.nil) | (with_reducible apply EnvLe.cons) | ((with_reducible refine RelA.int ?_; first | (refine Keep.mk ?_; first | with_reducible rfl | omega | decide) | skip)) | (exact rfl) | fail)) <;> (try with_reducible refine Keep.mk ?_))
      rw [s1, s3, h1]) (retQ_ok (by rfl) [] nil_sub ⟨rfl, rfl⟩)
  · have h1 := hw1 (by omega)
    exact retC_mk [(4, .int .i64 W)] [] 1 (by
      (refine Sim.less [] (by rfl) ?_ ?_ <;> (repeat' (first | (exact EnvLe.nil) | (exact HeapLe.nil) | (with_reducible apply EnvLe.cons) | ((with_reducible refine RelA.int ?_; first | (refine Keep.mk ?_; first | with_reducible rfl | omega | decide) | skip)) | (exact rfl) | fail)) <;> (try with_reducible refine Keep.mk ?_))
      rw [s1, s3, h1]) (retQ_ok (by rfl) [] nil_sub ⟨rfl, rfl⟩)
  · have h1 := hw2 (by omega)
    refine Seq.conv (s' := ⟨[(36, .int .i64 A), (40, .int .i64 (K - 1))], [], [], 1⟩) (by
      exact (Sim.less [] (by rfl) R_ R_)
      all_goals first | rw [s1] | rw [s2]) ?_
    repeat' (first | (refine SS_ ?_) | fail)
    subst h1
    exact retC_mk [(4, .int .i64 (A * (K - 1)))] [] 1 (Sim.less [] (by rfl) R_ R_) (retQ_ok (by rfl) [] nil_sub ⟨rfl, rfl⟩)
theorem hvalid_ok (c m k : Int) (hc : -9223372036854775808 ≤ c ∧ c ≤ 9223372036854775807) (hm : -9223372036854775808 ≤ m ∧ m ≤ 9223372036854775807) (hk : -9223372036854775808 ≤ k ∧ k ≤ 9223372036854775807) : Ok Tryd.prog 52 [] [] (.pair (hidA c m k) .nul) (fun r h' => r = .bool (decide (Fits m k ∧ 0 ≤ c ∧ c ≤ m)) ∧ h' = []) := by
  have hfit : (Fits m k ∧ 0 ≤ c ∧ c ≤ m) ↔ (1 ≤ m ∧ m ≤ 37) ∧ (1 ≤ k ∧ k ≤ 12) ∧ k * (m + 1) ≤ 38 ∧ 0 ≤ c ∧ c ≤ m := ⟨fun h => ⟨h.1.fm, h.1.fk, h.1.fs, h.2⟩, fun h => ⟨⟨h.1, h.2.1, h.2.2.1⟩, h.2.2.2⟩⟩
  have hmul : (1 ≤ m ∧ m ≤ 37) ∧ (1 ≤ k ∧ k ≤ 12) → 0 ≤ k * (m + 1) ∧ k * (m + 1) ≤ 12 * 38 := fun h => ⟨Int.mul_nonneg (by omega) (by omega), Int.mul_le_mul (by omega) (by omega) (by omega) (by omega)⟩
  rw [show decide (Fits m k ∧ 0 ≤ c ∧ c ≤ m) = decide ((1 ≤ m ∧ m ≤ 37) ∧ (1 ≤ k ∧ k ≤ 12) ∧ k * (m + 1) ≤ 38 ∧ 0 ≤ c ∧ c ≤ m) from decide_eq_decide.2 hfit]
  clear hfit
  refine Ok.of_vcC tt_ok Tryd.func52 rfl rfl (by show 1 ≤ _; decide) 0 (hlt_ok (by rfl)) fun c0 => ?_
  repeat' (first | (refine SS_ ?_) | (refine Seq.litC (by rfl) (by rfl) (fun hb => ?_) (fun hb => ?_) <;> (fail_if_success (with_reducible have := litT_ hb)) <;> (fail_if_success (with_reducible have := litF_ hb)) <;> (try simp only [HB_] at hb) <;> (try (exfalso; first | omega | (cases hb; done)))) | fail)
  · (refine retC_mk ([(2, .bool (decide (c ≤ m)))]) ([]) 1 (Sim.less [] (by rfl) R_ R_) (retQ_ok (by rfl) ([]) (fun i av h => h) ⟨?_, ?_⟩))
    · exact congrArg AV.bool (decide_eq_decide.2 (by omega))
    · rfl
  all_goals (refine retC_mk ([(2, .bool false)]) ([]) 1 (Sim.less [] (by rfl) R_ R_) (retQ_ok (by rfl) ([]) (fun i av h => h) ⟨?_, ?_⟩))
  all_goals first | rfl | exact congrArg AV.bool (decide_eq_false (by omega)).symm
theorem hall_ok (c m k : Int) : Ok Tryd.prog 53 [] [] (.pair (hidA c m k) .nul) (fun r h' => r = .fn (.func 67) .nul (.pair (.ptr 0 []) .nul) ∧ h' = [(0, hidA c m k)]) := by
  refine Ok.of_vcC tt_ok Tryd.func53 rfl rfl (by show 1 ≤ _; decide) 0 (hlt_ok (by rfl)) fun c0 => ?_
  repeat' (first | (refine SS_ ?_) | fail)
  (refine retC_mk ([(2, .fn (.func 67) .nul (.pair (.ptr 0 []) .nul))]) ([(0, hidA c m k)]) 1 (Sim.less [] (by rfl) R_ R_) (retQ_ok (by rfl) ([(0, hidA c m k)]) (fun i av h => h) ⟨?_, ?_⟩)) <;> rfl
end Go.Proofs.YtdbebdjnpckfdaaDoor
