
/- Books of consent: the plain law. -/
import Derived.Test.YtnjchlggjdoboaaSh
import Derived.Test.YtnjchlggjdoboaaDa
set_option linter.unusedSimpArgs false
set_option linter.unusedVariables false
namespace Go.Cs
open Go.V
/-- Strictly increasing, above last, less than n. -/
def risP (last n : Int) : List Int → Bool
  | [] => true
  | v :: r => if v ≤ last ∨ n ≤ v then false else risP v n r
def lastI (l : List Int) (k : Nat) : Int := if k = 0 then -1 else l.getD (k - 1) 0
theorem drop_step {l : List Int} {k : Nat} (h : k < l.length) : l.drop k = l.getD k 0 :: l.drop (k + 1) := by
  rw [List.drop_eq_getElem_cons h, List.getD_eq_getElem?_getD, List.getElem?_eq_getElem h]; rfl
theorem risP_step {l : List Int} {n : Int} {k : Nat} (h : k < l.length) : risP (lastI l k) n (l.drop k) = if l.getD k 0 ≤ lastI l k ∨ n ≤ l.getD k 0 then false else risP (lastI l (k + 1)) n (l.drop (k + 1)) := by
  rw [drop_step h, risP]; rfl
theorem risP_all {last n : Int} : ∀ {l : List Int}, risP last n l = true → l.Pairwise (· < ·) ∧ ∀ x ∈ l, last < x ∧ x < n
  | [], _ => ⟨List.Pairwise.nil, fun x hx => by cases hx⟩
  | v :: r, h => by
    rw [risP] at h
    split at h
    · cases h
    · obtain ⟨h1, h2⟩ := risP_all h
      refine ⟨List.Pairwise.cons (fun x hx => (h2 x hx).1) h1, fun x hx => ?_⟩
      rcases List.mem_cons.1 hx with rfl | hx
      · omega
      · have := h2 x hx; omega
/-- Where the first element is for which a test holds; -1: nowhere. -/
def idxP (q : Int → Bool) (k : Nat) : List Int → Int
  | [] => -1
  | v :: r => if q v = true then (k : Int) else idxP q (k + 1) r
theorem idxP_step {q : Int → Bool} {l : List Int} {k : Nat} (h : k < l.length) : idxP q k (l.drop k) = if q (l.getD k 0) = true then (k : Int) else idxP q (k + 1) (l.drop (k + 1)) := by
  rw [drop_step h, idxP]
theorem idxP_any {q : Int → Bool} : ∀ {l : List Int} {k : Nat}, decide (0 ≤ idxP q k l) = l.any q
  | [], k => by rw [idxP]; rfl
  | v :: r, k => by
    rw [idxP, List.any_cons]
    cases hq : q v with
    | true => simp
    | false => simpa using idxP_any (q := q) (l := r) (k := k + 1)
theorem idxP_lt {q : Int → Bool} : ∀ {l : List Int} {k : Nat}, idxP q k l < k + l.length ∧ -1 ≤ idxP q k l
  | [], k => by rw [idxP]; simp; omega
  | v :: r, k => by
    rw [idxP, List.length_cons]
    have := idxP_lt (q := q) (l := r) (k := k + 1)
    split <;> omega
theorem any_eq {l : List Int} {x : Int} : (l.any fun v => decide (x = v)) = decide (x ∈ l) := by
  induction l with
  | nil => simp
  | cons v r ih => rw [List.any_cons, ih]; by_cases h : x = v <;> simp [h]
/-- A list without what is the same as the element before. -/
def cmpct : List Int → List Int
  | [] => []
  | [a] => [a]
  | a :: b :: r => if a = b then cmpct (b :: r) else a :: cmpct (b :: r)
/-- The elements in increasing order, each once. -/
def uniq (l : List Int) : List Int := cmpct (srt l)
theorem cmpct_mem : ∀ {l : List Int} {x : Int}, x ∈ cmpct l ↔ x ∈ l
  | [], x => by rw [cmpct]
  | [a], x => by rw [cmpct]
  | a :: b :: r, x => by
    rw [cmpct]
    split
    · rename_i e
      rw [cmpct_mem, List.mem_cons (a := x) (b := a)]
      constructor
      · exact .inr
      · rintro (rfl | h)
        · rw [e]; exact List.mem_cons_self
        · exact h
    · rw [List.mem_cons, cmpct_mem, List.mem_cons (a := x) (b := a)]
theorem cmpct_inc : ∀ {l : List Int}, l.Pairwise (· ≤ ·) → (cmpct l).Pairwise (· < ·)
  | [], _ => by rw [cmpct]; exact List.Pairwise.nil
  | [a], _ => by rw [cmpct]; exact List.pairwise_singleton _ _
  | a :: b :: r, h => by
    rw [List.pairwise_cons] at h
    rw [cmpct]
    split
    · exact cmpct_inc h.2
    · rename_i hne
      refine List.pairwise_cons.2 ⟨fun x hx => ?_, cmpct_inc h.2⟩
      have hx := cmpct_mem.1 hx
      have h1 := h.1 b List.mem_cons_self
      have h2 : b ≤ x := by
        rcases List.mem_cons.1 hx with rfl | hx
        · omega
        · exact (List.pairwise_cons.1 h.2).1 x hx
      omega
theorem srt_le (l : List Int) : (srt l).Pairwise (· ≤ ·) := by
  have h := List.pairwise_mergeSort (le := fun x y : Int => decide (x ≤ y)) (fun a b c h1 h2 => by simp only [decide_eq_true_eq] at *; omega) (fun a b => by simp only [Bool.or_eq_true, decide_eq_true_eq]; omega) l
  exact h.imp fun h => by simpa using h
theorem srt_mem {l : List Int} {x : Int} : x ∈ srt l ↔ x ∈ l := (List.mergeSort_perm l _).mem_iff
theorem uniq_mem {l : List Int} {x : Int} : x ∈ uniq l ↔ x ∈ l := cmpct_mem.trans srt_mem
theorem uniq_inc (l : List Int) : (uniq l).Pairwise (· < ·) := cmpct_inc (srt_le l)
theorem inc_ext : ∀ {l m : List Int}, l.Pairwise (· < ·) → m.Pairwise (· < ·) → (∀ x, x ∈ l ↔ x ∈ m) → l = m
  | [], [], _, _, _ => rfl
  | [], b :: m, _, _, h => absurd ((h b).2 List.mem_cons_self) (by simp)
  | a :: l, [], _, _, h => absurd ((h a).1 List.mem_cons_self) (by simp)
  | a :: l, b :: m, hl, hm, h => by
    rw [List.pairwise_cons] at hl hm
    have h1 := (h a).1 List.mem_cons_self
    have h2 := (h b).2 List.mem_cons_self
    have hab : a = b := by
      rcases List.mem_cons.1 h1 with h1 | h1
      · exact h1
      rcases List.mem_cons.1 h2 with h2 | h2
      · exact h2.symm
      · have := hm.1 a h1
        have := hl.1 b h2
        omega
    subst hab
    rw [inc_ext hl.2 hm.2 fun x => ⟨fun hx => ?_, fun hx => ?_⟩]
    · rcases List.mem_cons.1 ((h x).1 (List.mem_cons_of_mem _ hx)) with rfl | h3
      · exact absurd (hl.1 x hx) (by omega)
      · exact h3
    · rcases List.mem_cons.1 ((h x).2 (List.mem_cons_of_mem _ hx)) with rfl | h3
      · exact absurd (hm.1 x hx) (by omega)
      · exact h3
theorem uniq_eq {l m : List Int} (h1 : m.Pairwise (· < ·)) (h2 : ∀ x, x ∈ m ↔ x ∈ l) : uniq l = m :=
  inc_ext (uniq_inc l) h1 fun x => uniq_mem.trans (h2 x).symm
theorem uniq_of_inc {l : List Int} (h : l.Pairwise (· < ·)) : uniq l = l := uniq_eq h fun _ => Iff.rfl
/-- A thing of a book. -/
structure Ent where
  F : List Int
  P : List Int
  B : List Int
  U : Bool
def entZ : Ent := ⟨[], [], [], false⟩
structure Bk where
  E : List Ent
  R : List Int
def baseAt (E : List Ent) (i : Int) : List Int := (E.getD i.toNat entZ).B
def baseOf (E : List Ent) (F P : List Int) : List Int := uniq (P ++ (F.map (baseAt E)).flatten)
def stale (E : List Ent) (F : List Int) : Bool := F.any fun i => !(E.getD i.toNat entZ).U
def denied (R P : List Int) : Bool := P.any fun p => decide (p ∈ R)
def mkE (b : Bk) (F P : List Int) : Int :=
  if 256 ≤ b.E.length ∨ 512 < P.length then 4
  else if risP (-1) b.E.length F = false ∨ risP (-1) 65536 P = false then 1
  else if denied b.R P = true then 24
  else if stale b.E F = true then 17 else 0
def mkB (b : Bk) (F P : List Int) : Bk := if mkE b F P = 0 then ⟨b.E ++ [⟨F, P, baseOf b.E F P, true⟩], b.R⟩ else b
def mkN (b : Bk) (F P : List Int) : Int := if mkE b F P = 0 then b.E.length else 0
def rmE (b : Bk) (p : Int) : Int := if p < 0 ∨ 65536 ≤ p then 5 else if p ∈ b.R then 7 else 0
def gone (p : Int) (e : Ent) : Ent := if p ∈ e.B then ⟨e.F, e.P, e.B, false⟩ else e
def rmB (b : Bk) (p : Int) : Bk := if rmE b p = 0 then ⟨b.E.map (gone p), b.R ++ [p]⟩ else b
/-- The numbers of the first k things that depend on a person. -/
def hitsTo (E : List Ent) (p : Int) : Nat → List Int
  | 0 => []
  | k + 1 => if p ∈ (E.getD k entZ).B then hitsTo E p k ++ [(k : Int)] else hitsTo E p k
def rmL (b : Bk) (p : Int) : List Int := if rmE b p = 0 then hitsTo b.E p b.E.length else []
def badT (b : Bk) (i : Int) : Prop := i < 0 ∨ (b.E.length : Int) ≤ i
instance (b : Bk) (i : Int) : Decidable (badT b i) := by unfold badT; infer_instance
def rnE (b : Bk) (i : Int) : Int :=
  if badT b i then 6 else if (b.E.getD i.toNat entZ).U = true then 8 else if stale b.E (b.E.getD i.toNat entZ).F = true then 17 else 0
def kept (R P : List Int) : List Int := P.filter fun p => !decide (p ∈ R)
def renewed (b : Bk) (e : Ent) : Ent := ⟨e.F, kept b.R e.P, baseOf b.E e.F (kept b.R e.P), true⟩
def rnB (b : Bk) (i : Int) : Bk := if rnE b i = 0 then ⟨b.E.set i.toNat (renewed b (b.E.getD i.toNat entZ)), b.R⟩ else b
def dpE (b : Bk) (i : Int) : Int := if badT b i then 6 else 0
def dpL (b : Bk) (i : Int) : List Int := if badT b i then [] else (b.E.getD i.toNat entZ).B
def dpU (b : Bk) (i : Int) : Bool := if badT b i then false else (b.E.getD i.toNat entZ).U
/-- What books are always. -/
structure BOk (b : Bk) : Prop where
  n : b.E.length ≤ 256
  f : ∀ k, k < b.E.length → (b.E.getD k entZ).F.Pairwise (· < ·) ∧ ∀ i ∈ (b.E.getD k entZ).F, 0 ≤ i ∧ i < k
  p : ∀ k, k < b.E.length → (b.E.getD k entZ).P.Pairwise (· < ·) ∧ (b.E.getD k entZ).P.length ≤ 512 ∧ ∀ x ∈ (b.E.getD k entZ).P, 0 ≤ x ∧ x < 65536
  q : ∀ k, k < b.E.length → (b.E.getD k entZ).B.Pairwise (· < ·) ∧ ∀ x ∈ (b.E.getD k entZ).B, 0 ≤ x ∧ x < 65536
  r : b.R.Nodup ∧ ∀ x ∈ b.R, 0 ≤ x ∧ x < 65536
end Go.Cs
namespace Go.Cs
theorem cmpct_snoc : ∀ {m : List Int} {x : Int} (h : m ≠ []), cmpct (m ++ [x]) = if m.getLast h = x then cmpct m else cmpct m ++ [x]
  | [a], x, _ => by
    show cmpct [a, x] = _
    rw [cmpct]
    by_cases h : a = x
    · simp [h, cmpct]
    · simp [h, cmpct]
  | a :: b :: r, x, _ => by
    have ih := cmpct_snoc (m := b :: r) (x := x) (by simp)
    show cmpct (a :: b :: (r ++ [x])) = _
    rw [cmpct, cmpct, List.getLast_cons (by simp)]
    rw [show b :: (r ++ [x]) = (b :: r) ++ [x] from rfl, ih]
    by_cases h : a = b
    · simp [h]
    · by_cases h2 : (b :: r).getLast (by simp) = x <;> simp [h, h2]
theorem take_snoc {l : List Int} {k : Nat} (h : k < l.length) : l.take (k + 1) = l.take k ++ [l.getD k 0] := by
  rw [List.take_add_one, List.getD_eq_getElem?_getD, List.getElem?_eq_getElem h]; rfl
theorem cmpct_take {l : List Int} {k : Nat} (h0 : 0 < k) (h : k < l.length) : cmpct (l.take (k + 1)) = if l.getD (k - 1) 0 = l.getD k 0 then cmpct (l.take k) else cmpct (l.take k) ++ [l.getD k 0] := by
  have hne : l.take k ≠ [] := fun e => by
    have := congrArg List.length e
    rw [List.length_take, List.length_nil] at this; omega
  have hl : (l.take k).getLast hne = l.getD (k - 1) 0 := by
    rw [List.getLast_eq_getElem, List.getElem_take, List.getD_eq_getElem?_getD, List.getElem?_eq_getElem (by omega)]
    simp only [List.length_take, Option.getD_some]
    congr 1; omega
  rw [take_snoc h, cmpct_snoc hne, hl]
theorem filter_take {q : Int → Bool} {l : List Int} {k : Nat} (h : k < l.length) : (l.take (k + 1)).filter q = if q (l.getD k 0) = true then (l.take k).filter q ++ [l.getD k 0] else (l.take k).filter q := by
  rw [take_snoc h, List.filter_append]
  generalize l.getD k 0 = x
  cases hq : q x with
  | true => simp [List.filter_cons, hq]
  | false => simp [List.filter_cons, hq]
theorem getD_take_lt {l : List Int} {k j : Nat} (h : j < k) : (l.take k).getD j 0 = l.getD j 0 := by
  rw [List.getD_eq_getElem?_getD, List.getElem?_take, if_pos h, List.getD_eq_getElem?_getD]
theorem app_lt {α : Type} {l m : List α} {d : α} {i : Nat} (h : i < l.length) : (l ++ m).getD i d = l.getD i d := by
  rw [List.getD_eq_getElem?_getD, List.getD_eq_getElem?_getD, List.getElem?_append_left h]
theorem app_eq {α : Type} {l : List α} {x d : α} : (l ++ [x]).getD l.length d = x := by
  rw [List.getD_eq_getElem?_getD, List.getElem?_append_right (Nat.le_refl _), Nat.sub_self]; rfl
theorem set_get {A : List Int} {K : Nat} {v : Int} (h : K < A.length) : (A.set K v).getD K 0 = v := by
  rw [List.getD_eq_getElem?_getD, List.getElem?_set, if_pos rfl, if_pos h]; rfl
theorem set_get_ne {A : List Int} {K j : Nat} {v : Int} (h : j ≠ K) : (A.set K v).getD j 0 = A.getD j 0 := by
  rw [List.getD_eq_getElem?_getD, List.getElem?_set, if_neg (Ne.symm h), ← List.getD_eq_getElem?_getD]
theorem take_set_snoc {A : List Int} {K : Nat} {v : Int} (h : K < A.length) : (A.set K v).take (K + 1) = A.take K ++ [v] := by
  rw [List.take_add_one, List.take_set_of_le (Nat.le_refl _), List.getElem?_set, if_pos rfl, if_pos h]; rfl
theorem idxP_first {q : Int → Bool} : ∀ {l : List Int} {k i : Nat}, idxP q k l = (k + i : Nat) → (∀ j, j < i → q (l.getD j 0) = false) ∧ i < l.length ∧ q (l.getD i 0) = true
  | [], k, i, h => by rw [idxP] at h; omega
  | v :: r, k, i, h => by
    rw [idxP] at h
    split at h
    · rename_i hq
      obtain rfl : i = 0 := by omega
      exact ⟨fun j hj => absurd hj (Nat.not_lt_zero _), by simp, by simpa using hq⟩
    · rename_i hq
      have hk := idxP_lt (q := q) (l := r) (k := k + 1)
      have hge : ∀ {r : List Int} {k : Nat}, idxP q k r = -1 ∨ (k : Int) ≤ idxP q k r := by
        intro r
        induction r with
        | nil => intro k; rw [idxP]; exact .inl rfl
        | cons a r ih =>
          intro k
          rw [idxP]
          split
          · exact .inr (Int.le_refl _)
          · rcases ih (k := k + 1) with h | h
            · exact .inl h
            · right; omega
      have h2 := hge (r := r) (k := k + 1)
      obtain ⟨i', rfl⟩ : ∃ i', i = i' + 1 := ⟨i - 1, by omega⟩
      obtain ⟨h3, h4, h5⟩ := idxP_first (l := r) (k := k + 1) (i := i') (by rw [h]; congr 1; omega)
      refine ⟨fun j hj => ?_, by simp; omega, by simpa using h5⟩
      cases j with
      | zero => simpa using hq
      | succ j => simpa using h3 j (by omega)
theorem idxP_none {q : Int → Bool} {l : List Int} {k : Nat} (h : idxP q k l < 0) : ∀ x ∈ l, q x = false := by
  have h1 := idxP_any (q := q) (l := l) (k := k)
  rw [decide_eq_false (by omega)] at h1
  intro x hx
  cases hq : q x with
  | false => rfl
  | true =>
    have : l.any q = true := List.any_eq_true.2 ⟨x, hx, hq⟩
    rw [← h1] at this; cases this
end Go.Cs
namespace Go.Cs
theorem hitsTo_len {E : List Ent} {p : Int} : ∀ {k : Nat}, (hitsTo E p k).length ≤ k
  | 0 => Nat.le_refl _
  | k + 1 => by
    have := hitsTo_len (E := E) (p := p) (k := k)
    rw [hitsTo]
    split
    · rw [List.length_append, List.length_singleton]; omega
    · omega
theorem setE_get {E : List Ent} {k : Nat} {e : Ent} (h : k < E.length) : (E.set k e).getD k entZ = e := by
  rw [List.getD_eq_getElem?_getD, List.getElem?_set, if_pos rfl, if_pos h]; rfl
theorem setE_ne {E : List Ent} {k i : Nat} {e : Ent} (h : i ≠ k) : (E.set k e).getD i entZ = E.getD i entZ := by
  rw [List.getD_eq_getElem?_getD, List.getElem?_set, if_neg (Ne.symm h), ← List.getD_eq_getElem?_getD]
/-- The first k things behind a removal. -/
def goneTo (E : List Ent) (p : Int) (k : Nat) : List Ent := (E.take k).map (gone p) ++ E.drop k
theorem goneTo_zero (E : List Ent) (p : Int) : goneTo E p 0 = E := by unfold goneTo; simp
theorem goneTo_all (E : List Ent) (p : Int) : goneTo E p E.length = E.map (gone p) := by unfold goneTo; simp
theorem goneTo_get {E : List Ent} {p : Int} {k i : Nat} (h : i < E.length) : (goneTo E p k).getD i entZ = if i < k then gone p (E.getD i entZ) else E.getD i entZ := by
  unfold goneTo
  rw [List.getD_eq_getElem?_getD]
  by_cases hik : i < k
  · rw [if_pos hik, List.getElem?_append_left (by rw [List.length_map, List.length_take]; omega), List.getElem?_map, List.getElem?_take, if_pos hik, List.getD_eq_getElem?_getD, List.getElem?_eq_getElem h]; rfl
  · rw [if_neg hik, List.getElem?_append_right (by rw [List.length_map, List.length_take]; omega), List.length_map, List.length_take, List.getElem?_drop, List.getD_eq_getElem?_getD]
    congr 2; omega
end Go.Cs
