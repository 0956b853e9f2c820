
/- The plain law of disks: what each method does, in lists. No program in sight. -/
import Derived.Test.YtfiecjpoabnfnaaFe
set_option linter.unusedSimpArgs false
set_option linter.unusedVariables false
namespace Go.Dk
open Go.V (mFind mSet mDel)
abbrev Bs := List UInt8
abbrev PM := List (Int × Bs)
abbrev WM := List (Int × Bool)
structure Disk where
  B : List Bs
  P : PM
  W : WM
  off : Bool
  left : Int
/-- Is there no such sector? -/
def bad (n : Nat) (i : Int) : Prop := i < 0 ∨ (n : Int) ≤ i
instance (n : Nat) (i : Int) : Decidable (bad n i) := by unfold bad; infer_instance
def check (D : Disk) (i : Int) : Int := if D.off = true then 20 else if bad D.B.length i then 1 else 0
def step (D : Disk) : Disk × Int := if D.left = 0 then ({ D with off := true }, 20) else if 0 < D.left then ({ D with left := D.left - 1 }, 0) else (D, 0)
def write (D : Disk) (i : Int) (s : Bs) : Disk × Int :=
  if check D i ≠ 0 then (D, check D i) else if s.length ≠ 64 then (D, 1) else if (step D).2 ≠ 0 then step D else ({ (step D).1 with P := mSet (step D).1.P i s }, 0)
def read (D : Disk) (i : Int) : Bs × Int :=
  if check D i ≠ 0 then ([], check D i) else match mFind D.P i with
    | some b => (b, 0)
    | none => (D.B.getD i.toNat [], 0)
/-- A beginning of the new content, and the rest of the old one. -/
def tear (m : Nat) (x old : Bs) : Bs := x.take m ++ old.drop m
def upto (p : Int) : Nat := (max 0 (min p 64)).toNat
def isW (W : WM) (i : Int) : Bool := (mFind W i).getD false
def settle (D : Disk) (i : Int) (p : Int) : Disk :=
  { D with P := mDel D.P i, B := if isW D.W i = true then D.B else D.B.set i.toNat (tear (upto p) ((mFind D.P i).getD []) (D.B.getD i.toNat [])) }
def sortI (l : List Int) : List Int := l.mergeSort (fun x y => decide (x ≤ y))
def pending (D : Disk) : List Int := sortI (D.P.map (·.1))
def worn (D : Disk) : List Int := sortI (D.W.map (·.1))
def pickAt (picks : List Int) (k : Nat) : Int := if k < picks.length then picks.getD k 0 else 64
/-- The sectors ks settle, the k-th pick being that of the first one. -/
def settles (picks : List Int) : Nat → List Int → Disk → Disk
  | _, [], D => D
  | k, i :: r, D => settles picks (k + 1) r (settle D i (pickAt picks k))
def flush (D : Disk) : Disk × Int :=
  if check D 0 ≠ 0 then (D, check D 0) else if (step D).2 ≠ 0 then step D else (settles [] 0 (pending (step D).1) (step D).1, 0)
def mount (D : Disk) (picks : List Int) : Disk := { settles picks 0 (pending D) D with off := false, left := -1 }
def trip (D : Disk) (n : Int) : Disk := { D with left := n }
/-- A bit of a sector inverted. -/
def flip (b : Bs) (k : Nat) : Bs := b.set (k / 8) (b.getD (k / 8) 0 ^^^ UInt8.ofNat (2 ^ (k % 8)))
def rotBad (n : Nat) (i bit : Int) : Prop := bad n i ∨ bit < 0 ∨ 512 ≤ bit
instance (n : Nat) (i bit : Int) : Decidable (rotBad n i bit) := by unfold rotBad; infer_instance
def rot (D : Disk) (i bit : Int) : Disk × Int := if rotBad D.B.length i bit then (D, 1) else ({ D with B := D.B.set i.toNat (flip (D.B.getD i.toNat []) bit.toNat) }, 0)
def wear (D : Disk) (i : Int) : Disk × Int := if bad D.B.length i then (D, 1) else ({ D with W := mSet D.W i true }, 0)
/-- What a disk is always. -/
structure WF (D : Disk) : Prop where
  n0 : 0 < D.B.length
  n1 : D.B.length ≤ 4096
  b64 : ∀ b ∈ D.B, b.length = 64
  p64 : ∀ q ∈ D.P, q.2.length = 64
  pin : ∀ q ∈ D.P, ¬ bad D.B.length q.1
  pnd : (D.P.map (·.1)).Nodup
  win : ∀ q ∈ D.W, ¬ bad D.B.length q.1
  wnd : (D.W.map (·.1)).Nodup
  wt : ∀ q ∈ D.W, q.2 = true
  l64 : -9223372036854775808 ≤ D.left ∧ D.left ≤ 9223372036854775807
section
variable {κ ν : Type} [DecidableEq κ]
theorem mFind_mem {l : List (κ × ν)} {k : κ} {v : ν} (h : mFind l k = some v) : (k, v) ∈ l := by
  induction l with
  | nil => cases h
  | cons p r ih =>
    rw [mFind] at h
    split at h
    · rename_i e; cases h; rw [← e]; exact List.mem_cons_self
    · exact List.mem_cons_of_mem _ (ih h)
theorem mFind_none {l : List (κ × ν)} {k : κ} : mFind l k = none ↔ k ∉ l.map (·.1) := by
  induction l with
  | nil => simp [mFind]
  | cons p r ih =>
    rw [mFind, List.map_cons, List.mem_cons]
    by_cases h : p.1 = k
    · simp [h]
    · simp only [h, if_false, ih, not_or]
      exact ⟨fun q => ⟨fun e => h e.symm, q⟩, fun q => q.2⟩
theorem mFind_some_of {l : List (κ × ν)} {k : κ} (h : k ∈ l.map (·.1)) : ∃ v, mFind l k = some v := by
  cases hf : mFind l k with
  | none => exact absurd h (mFind_none.1 hf)
  | some v => exact ⟨v, rfl⟩
theorem mFind_mSet {l : List (κ × ν)} {k k' : κ} {v : ν} : mFind (mSet l k v) k' = if k = k' then some v else mFind l k' := by
  induction l with
  | nil => rw [mSet, mFind]; rfl
  | cons p r ih =>
    rw [mSet]
    by_cases h : p.1 = k
    · rw [if_pos h, mFind, mFind]
      by_cases h2 : k = k'
      · simp [h2]
      · simp only [h2, if_false]; rw [h]; simp only [h2, if_false]
    · rw [if_neg h, mFind, mFind, ih]
      by_cases h2 : k = k'
      · subst h2; simp [h]
      · simp [h2]
theorem mSet_keys {l : List (κ × ν)} {k : κ} {v : ν} : ∀ x, x ∈ (mSet l k v).map (·.1) ↔ x = k ∨ x ∈ l.map (·.1) := by
  induction l with
  | nil => intro x; simp [mSet]
  | cons p r ih =>
    intro x
    rw [mSet]
    split
    · rename_i h; simp only [List.map_cons, List.mem_cons, h]; constructor
      · rintro (h1 | h1); exact .inl h1; exact .inr (.inr h1)
      · rintro (h1 | h1 | h1); exact .inl h1; exact .inl h1; exact .inr h1
    · simp only [List.map_cons, List.mem_cons, ih x]
      constructor
      · rintro (h1 | h1 | h1); exact .inr (.inl h1); exact .inl h1; exact .inr (.inr h1)
      · rintro (h1 | h1 | h1); exact .inr (.inl h1); exact .inl h1; exact .inr (.inr h1)
theorem mSet_nodup {l : List (κ × ν)} {k : κ} {v : ν} (h : (l.map (·.1)).Nodup) : ((mSet l k v).map (·.1)).Nodup := by
  induction l with
  | nil => simp [mSet]
  | cons p r ih =>
    rw [List.map_cons, List.nodup_cons] at h
    rw [mSet]
    split
    · rename_i e; rw [List.map_cons, List.nodup_cons]; exact ⟨by rw [← e]; exact h.1, h.2⟩
    · rename_i e
      rw [List.map_cons, List.nodup_cons]
      refine ⟨fun hm => ?_, ih h.2⟩
      rcases (mSet_keys _).1 hm with h1 | h1
      · exact e h1
      · exact h.1 h1
theorem mSet_mem {l : List (κ × ν)} {k : κ} {v : ν} : ∀ q ∈ mSet l k v, q = (k, v) ∨ q ∈ l := by
  induction l with
  | nil => intro q hq; rw [mSet] at hq; exact .inl (List.mem_singleton.1 hq)
  | cons p r ih =>
    intro q hq
    rw [mSet] at hq
    split at hq
    · rcases List.mem_cons.1 hq with h | h
      · exact .inl h
      · exact .inr (List.mem_cons_of_mem _ h)
    · rcases List.mem_cons.1 hq with h | h
      · exact .inr (by rw [h]; exact List.mem_cons_self)
      · rcases ih q h with h | h
        · exact .inl h
        · exact .inr (List.mem_cons_of_mem _ h)
theorem mDel_sub {l : List (κ × ν)} {k : κ} : (mDel l k).Sublist l := by
  induction l with
  | nil => exact List.Sublist.refl _
  | cons p r ih =>
    rw [mDel]
    split
    · exact List.sublist_cons_self _ _
    · exact ih.cons_cons _
theorem mDel_nodup {l : List (κ × ν)} {k : κ} (h : (l.map (·.1)).Nodup) : ((mDel l k).map (·.1)).Nodup := (mDel_sub.map _).nodup h
theorem mFind_mDel {l : List (κ × ν)} {k k' : κ} (h : (l.map (·.1)).Nodup) : mFind (mDel l k) k' = if k = k' then none else mFind l k' := by
  induction l with
  | nil => simp [mDel, mFind]
  | cons p r ih =>
    rw [List.map_cons, List.nodup_cons] at h
    rw [mDel]
    by_cases h1 : p.1 = k
    · rw [if_pos h1, mFind]
      by_cases h2 : k = k'
      · subst h2; simp only [if_true]; exact mFind_none.2 (by rw [← h1]; exact h.1)
      · rw [if_neg h2, if_neg (by rw [h1]; exact h2)]
    · rw [if_neg h1, mFind, ih h.2, mFind]
      by_cases h2 : k = k'
      · subst h2; simp [h1]
      · simp [h2]
end
theorem sortI_perm (l : List Int) : (sortI l).Perm l := List.mergeSort_perm l _
theorem sortI_pairwise (l : List Int) : (sortI l).Pairwise (fun x y => x ≤ y) := by
  have := List.pairwise_mergeSort (le := fun x y : Int => decide (x ≤ y)) (fun a b c h1 h2 => by simp only [decide_eq_true_eq] at *; omega) (fun a b => by simp only [Bool.or_eq_true, decide_eq_true_eq]; omega) l
  exact this.imp fun h => by simpa using h
theorem sortI_eq {l m : List Int} (hp : l.Perm m) (hm : m.Pairwise (fun x y => x < y)) : sortI l = m := by
  refine List.Perm.eq_of_pairwise (le := fun x y => x ≤ y) (fun a b _ _ h1 h2 => by omega) (sortI_pairwise l) (hm.imp fun h => by omega) ((sortI_perm l).trans hp)
end Go.Dk
