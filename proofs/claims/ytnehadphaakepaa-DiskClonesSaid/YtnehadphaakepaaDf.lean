
/- Disks: Flush and Mount. -/
import Derived.Test.YtnehadphaakepaaDe
set_option linter.unusedSimpArgs false
set_option linter.unusedVariables false
namespace Go.Proofs.Ytnehadphaakepaa
open Go.V Go.RowKit Go.L Go.Dk
variable {n : Nat} {B : List Bs} {P : PM} {W : WM} {off : Bool} {left : Int}
/-- The sectors that settle, one after the other: the blocks and what is pending behind them. -/
def setB (W : WM) (picks : List Int) : Nat → List Int → List Bs × PM → List Bs × PM
  | _, [], s => s
  | k, i :: r, s => setB W picks (k + 1) r (if isW W i = true then s.1 else s.1.set i.toNat (tear (upto (pickAt picks k)) ((mFind s.2 i).getD []) (s.1.getD i.toNat [])), mDel s.2 i)
theorem setB_settles (picks : List Int) : ∀ (l : List Int) (k : Nat) (D : Disk), settles picks k l D = { D with B := (setB D.W picks k l (D.B, D.P)).1, P := (setB D.W picks k l (D.B, D.P)).2 }
  | [], k, D => rfl
  | i :: r, k, D => by
    rw [settles, setB_settles picks r (k + 1) (Dk.settle D i (pickAt picks k))]
    rfl
theorem setB_append (W : WM) (picks : List Int) : ∀ (l : List Int) (x : Int) (k : Nat) (s : List Bs × PM), setB W picks k (l ++ [x]) s = setB W picks (k + l.length) [x] (setB W picks k l s)
  | [], x, k, s => rfl
  | i :: r, x, k, s => by
    rw [List.cons_append, setB, setB_append W picks r x (k + 1), List.length_cons, show k + 1 + r.length = k + (r.length + 1) by omega]
    rfl
/-- What stays while they settle. -/
structure Inv (n : Nat) (P0 : PM) (done : List Int) (s : List Bs × PM) : Prop where
  len : s.1.length = n
  b64 : ∀ b ∈ s.1, b.length = 64
  p64 : ∀ q ∈ s.2, q.2.length = 64
  nd : (s.2.map (·.1)).Nodup
  find : ∀ i, mFind s.2 i = if i ∈ done then none else mFind P0 i
theorem inv_step {n : Nat} {P0 : PM} {done : List Int} {s : List Bs × PM} (h : Inv n P0 done s) (W : WM) (m : Nat) (hm : m ≤ 64) {i : Int} {x : Bs} (hx : mFind s.2 i = some x) : Inv n P0 (done ++ [i]) (if isW W i = true then s.1 else s.1.set i.toNat (tear m ((mFind s.2 i).getD []) (s.1.getD i.toNat [])), mDel s.2 i) := by
  refine ⟨?_, ?_, fun q hq => h.p64 q (mDel_sub.subset hq), mDel_nodup h.nd, fun j => ?_⟩
  · show (if isW W i = true then s.1 else _).length = n
    split
    · exact h.len
    · rw [List.length_set]; exact h.len
  · intro b hb
    have hb : b ∈ (if isW W i = true then s.1 else s.1.set i.toNat (tear m ((mFind s.2 i).getD []) (s.1.getD i.toNat []))) := hb
    split at hb
    · exact h.b64 b hb
    · rcases Nat.lt_or_ge i.toNat s.1.length with hi | hi
      · rcases List.mem_or_eq_of_mem_set hb with hb | hb
        · exact h.b64 b hb
        · have h1 := h.p64 _ (mFind_mem hx)
          have h2 := h.b64 _ (getD_mem (d := []) hi)
          rw [hb, hx]
          unfold tear
          rw [List.length_append, List.length_take, List.length_drop]
          simp only [Option.getD_some] at *
          omega
      · rw [List.set_eq_of_length_le hi] at hb
        exact h.b64 b hb
  · show mFind (mDel s.2 i) j = _
    rw [mFind_mDel h.nd, h.find j]
    by_cases hij : i = j
    · subst hij; simp
    · rw [if_neg hij]
      have hji : ¬ j = i := fun e => hij e.symm
      have : j ∈ done ++ [i] ↔ j ∈ done := by simp [hji]
      simp only [this]
/-- What a disk's parts are always. -/
structure Good (n : Nat) (B : List Bs) (P : PM) (W : WM) (left : Int) : Prop where
  n0 : 0 < n
  n1 : n ≤ 4096
  len : B.length = n
  b64 : ∀ b ∈ B, b.length = 64
  p64 : ∀ q ∈ P, q.2.length = 64
  pnd : (P.map (·.1)).Nodup
  pin : ∀ q ∈ P, 0 ≤ q.1 ∧ q.1 < n
  wnd : (W.map (·.1)).Nodup
  win : ∀ q ∈ W, 0 ≤ q.1 ∧ q.1 < n
  l64 : i64B left
theorem nodup_lt : ∀ (n : Nat) (l : List Nat), l.Nodup → (∀ x ∈ l, x < n) → l.length ≤ n
  | 0, l, _, h => by
    cases l with
    | nil => exact Nat.le_refl _
    | cons x r => exact absurd (h x List.mem_cons_self) (Nat.not_lt_zero _)
  | n + 1, l, hn, h => by
    have h1 := nodup_lt n (l.erase n) (hn.erase n) fun x hx => by
      have h2 := (List.Nodup.mem_erase_iff hn).1 hx
      have := h x h2.2
      omega
    by_cases hm : n ∈ l
    · rw [List.length_erase_of_mem hm] at h1; omega
    · rw [List.erase_of_not_mem hm] at h1; omega
theorem nodup_le {l : List Int} {n : Nat} (hn : l.Nodup) (h : ∀ x ∈ l, 0 ≤ x ∧ x < n) : l.length ≤ n := by
  have h1 : (l.map Int.toNat).Nodup := by
    rw [List.Nodup, List.pairwise_map]
    refine List.Pairwise.imp_of_mem (fun {a b} ha hb hne e => hne ?_) hn
    have := h a ha
    have := h b hb
    omega
  have h2 : (l.map Int.toNat) ⊆ List.range n := fun x hx => by
    obtain ⟨y, hy, rfl⟩ := List.mem_map.1 hx
    have := h y hy
    exact List.mem_range.2 (by omega)
  have := nodup_lt n _ h1 fun x hx => List.mem_range.1 (h2 hx)
  simpa using this
theorem Good.pl (h : Good n B P W left) : P.length ≤ 4096 := by
  have := nodup_le h.pnd (n := n) fun x hx => by
    obtain ⟨q, hq, rfl⟩ := List.mem_map.1 hx
    exact h.pin q hq
  rw [List.length_map] at this
  have := h.n1
  omega
theorem Good.wl (h : Good n B P W left) : W.length ≤ 4096 := by
  have := nodup_le h.wnd (n := n) fun x hx => by
    obtain ⟨q, hq, rfl⟩ := List.mem_map.1 hx
    exact h.win q hq
  rw [List.length_map] at this
  have := h.n1
  omega
theorem inv_take (h : Good n B P W left) (picks : List Int) : ∀ k, k ≤ (sortI (P.map (·.1))).length → Inv n P ((sortI (P.map (·.1))).take k) (setB W picks 0 ((sortI (P.map (·.1))).take k) (B, P)) ∧
    (k < (sortI (P.map (·.1))).length → ∃ x, mFind (setB W picks 0 ((sortI (P.map (·.1))).take k) (B, P)).2 ((sortI (P.map (·.1))).getD k 0) = some x ∧ x.length = 64 ∧ 0 ≤ (sortI (P.map (·.1))).getD k 0 ∧ (sortI (P.map (·.1))).getD k 0 < n) := by
  have hp := sortI_perm (P.map (·.1))
  have hnd : (sortI (P.map (·.1))).Nodup := hp.nodup_iff.2 h.pnd
  have hmem : ∀ x ∈ sortI (P.map (·.1)), x ∈ P.map (·.1) := fun x hx => hp.mem_iff.1 hx
  generalize sortI (P.map (·.1)) = L at *
  have hat : ∀ k s, k < L.length → Inv n P (L.take k) s → ∃ x, mFind s.2 (L.getD k 0) = some x ∧ x.length = 64 ∧ 0 ≤ L.getD k 0 ∧ L.getD k 0 < n := fun k s hk hi => by
    have hin := hmem _ (getD_mem (d := 0) hk)
    have hnot : L.getD k 0 ∉ L.take k := fun hm => by
      obtain ⟨j, hj, e⟩ := List.getElem_of_mem hm
      have hjk : j < k := by rw [List.length_take] at hj; omega
      rw [List.getElem_take, List.getD_eq_getElem?_getD, List.getElem?_eq_getElem hk, Option.getD_some] at e
      exact List.pairwise_iff_getElem.1 hnd j k (by rw [List.length_take] at hj; omega) hk hjk e
    obtain ⟨x, hx⟩ := mFind_some_of hin
    refine ⟨x, by rw [hi.find, if_neg hnot, hx], h.p64 _ (mFind_mem hx), ?_⟩
    exact h.pin _ (mFind_mem hx)
  intro k
  induction k with
  | zero =>
    intro _
    have h0 : Inv n P (L.take 0) (B, P) := ⟨h.len, h.b64, h.p64, h.pnd, fun i => by simp⟩
    exact ⟨h0, fun hk => hat 0 _ hk h0⟩
  | succ k ih =>
    intro hk
    obtain ⟨h1, h2⟩ := ih (by omega)
    obtain ⟨x, hx, h64, hb⟩ := h2 (by omega)
    have e : L.take (k + 1) = L.take k ++ [L.getD k 0] := by
      rw [List.take_add_one, List.getD_eq_getElem?_getD, List.getElem?_eq_getElem (by omega : k < L.length)]; rfl
    have hlen : (L.take k).length = k := by rw [List.length_take]; omega
    have h3 := inv_step h1 W (upto (pickAt picks k)) (upto_le _) hx
    have e2 : setB W picks 0 (L.take (k + 1)) (B, P) = (if isW W (L.getD k 0) = true then (setB W picks 0 (L.take k) (B, P)).1 else (setB W picks 0 (L.take k) (B, P)).1.set (L.getD k 0).toNat (tear (upto (pickAt picks k)) ((mFind (setB W picks 0 (L.take k) (B, P)).2 (L.getD k 0)).getD []) ((setB W picks 0 (L.take k) (B, P)).1.getD (L.getD k 0).toNat [])), mDel (setB W picks 0 (L.take k) (B, P)).2 (L.getD k 0)) := by
      rw [e, setB_append, hlen, Nat.zero_add]; rfl
    rw [← e2, ← e] at h3
    exact ⟨h3, fun hk' => hat (k + 1) _ hk' h3⟩
theorem setB_succ (W : WM) (picks L : List Int) (s : List Bs × PM) (k : Nat) (hk : k < L.length) : setB W picks 0 (L.take (k + 1)) s = (if isW W (L.getD k 0) = true then (setB W picks 0 (L.take k) s).1 else (setB W picks 0 (L.take k) s).1.set (L.getD k 0).toNat (tear (upto (pickAt picks k)) ((mFind (setB W picks 0 (L.take k) s).2 (L.getD k 0)).getD []) ((setB W picks 0 (L.take k) s).1.getD (L.getD k 0).toNat [])), mDel (setB W picks 0 (L.take k) s).2 (L.getD k 0)) := by
  have e : L.take (k + 1) = L.take k ++ [L.getD k 0] := by
    rw [List.take_add_one, List.getD_eq_getElem?_getD, List.getElem?_eq_getElem hk]; rfl
  have hlen : (L.take k).length = k := by rw [List.length_take]; omega
  rw [e, setB_append, hlen, Nat.zero_add]; rfl
end Go.Proofs.Ytnehadphaakepaa
