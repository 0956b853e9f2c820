
/- slices.Sort over an own slice of numbers: the kit's contract as one over abstract values. -/
import Derived.Test.YtfiecjpoabnfnaaSg
set_option linter.unusedSimpArgs false
set_option linter.unusedVariables false
namespace Go.V
open Go.RowKit Go.L Go.Maps Go.Proofs Go.Shelf Go.Sort
abbrev intO (l : List Int) : AV := .arr l.length 1 (fun i => .int .i64 (l.getD i 0))
def srt (l : List Int) : List Int := l.mergeSort fun x y => decide (x ≤ y)
theorem srt_len (l : List Int) : (srt l).length = l.length := (List.mergeSort_perm _ _).length_eq
theorem ints_of {c : Ctx} {l : List Int} {xs : List Value} (h : Rep c (intO l) .C xs) : xs = l.map (Value.int .i64) := by
  obtain ⟨hl, h⟩ := h
  rw [Nat.mul_one] at hl
  refine List.ext_getElem (by rw [hl, List.length_map]) fun i h1 h2 => ?_
  have hi : i < l.length := by omega
  have h3 : sub xs (i * 1) 1 = [.int .i64 (l.getD i 0)] := h i hi
  have h4 := congrArg (fun q => q[0]?) h3
  rw [Nat.mul_one] at h4
  simp only [sub_get, Nat.add_zero, Nat.lt_one_iff, if_true, List.getElem?_cons_zero] at h4
  rw [List.getElem?_eq_getElem h1, List.getD_eq_getElem?_getD, List.getElem?_eq_getElem hi, Option.getD_some] at h4
  rw [List.getElem_map]
  exact Option.some.inj h4
theorem rep_ints (c : Ctx) (l : List Int) : Rep c (intO l) .C (l.map (Value.int .i64)) := by
  refine ⟨by simp, fun i hi => ?_⟩
  show sub (l.map (Value.int .i64)) (i * 1) 1 = [.int .i64 (l.getD i 0)]
  apply List.ext_getElem?
  intro j
  rw [sub_get, Nat.mul_one]
  split
  · obtain rfl : j = 0 := by omega
    simp [hi]
  · rw [List.getElem?_eq_none (by simp; omega)]
theorem sort_ok {P : Program} {f : FuncId}
    (H : ∀ (blk off cap : Nat) (zs : List Int) (w : World), Holds (Value.int .i64) w blk off zs.toArray → blk < w.heap.size → zs.length < 4611686018427387904 →
      Calls P f #[.slice (some ⟨blk, off, none⟩) zs.length cap] w fun e w' => e = .returned (.tuple #[]) ∧ ∃ n os, w' = grow (putRow (Value.int .i64) (Sort.ahead w n) blk off (zs.mergeSort fun x y => decide (x ≤ y)).toArray) os)
    (H0 : ∀ (p : Option Addr) (cap : Nat) (w : World), Calls P f #[.slice p 0 cap] w fun e w' => e = .returned (.tuple #[]) ∧ w' = w) (l : List Int) (hl : l.length < 4611686018427387904) :
    Ok P f [] [(0, intO l)] (.pair (.sl 0 [] 1 0 l.length) .nul) (fun r h' => r = .tup .nul ∧ h' = [(0, intO (srt l))]) := by
  intro c hg hh hc hB hA vs hvs
  obtain ⟨v, vs', rfl, hv, hnul⟩ := hvs
  have hnul : vs' = [] := hnul
  subst hnul
  have hempty : ∀ (p : Option Addr) (cap : Nat), l = [] → v = .slice p 0 cap → Calls P f [v].toArray c.w fun e w' => ∃ c' v' r h' ns, e = .returned v' ∧ c'.w = w' ∧ Out c [(0, intO l)] h' ns c' ∧ Rep c' r .V [v'] ∧ (r = .tup .nul ∧ h' = [(0, intO (srt l))]) := by
    rintro p cap rfl rfl
    refine (H0 p cap c.w).mono fun e w' h => ?_
    obtain ⟨rfl, rfl⟩ := h
    exact ⟨c, _, .tup .nul, _, [], rfl, rfl, Out.refl hh hc, ⟨[], rfl, rfl⟩, rfl, by rw [show srt [] = [] from List.Perm.eq_nil (List.mergeSort_perm _ _)]⟩
  obtain ⟨hA0, ⟨_, hz, ad, hvv⟩ | ⟨hG, o, cap, hvv, ho2, h3, h4, h5⟩⟩ := rep_sl hv
  · exact hempty ad 0 (List.length_eq_zero_iff.1 hz) hvv
  by_cases hl0 : l = []
  · subst hl0
    exact hempty _ cap rfl hvv
  have hpos : 0 < l.length := List.length_pos_iff.2 hl0
  obtain rfl : o = 0 := by
    rcases ho2 with h | h
    · omega
    · simpa [pathOff] using h
  subst hvv
  obtain ⟨cs, t0, xs, ys, hblk, rfl, hr⟩ := (hh.obj 0 _ rfl hG).cells rfl
  have hxs := ints_of hr
  subst hxs
  have hHolds : Holds (Value.int .i64) c.w (c.ρ 0) 0 l.toArray := fun j hj => by
    have hj : j < l.length := by simpa using hj
    refine ⟨?_, hblk.free (by simp; omega)⟩
    rw [Nat.zero_add]
    refine hblk.cell ?_
    rw [List.getElem?_append_left (by simpa using hj)]
    simp [hj]
  refine (H (c.ρ 0) 0 cap l c.w hHolds hblk.lt hl).mono fun e w' h => ?_
  obtain ⟨rfl, n, os, rfl⟩ := h
  show ∃ c' v' r h' ns, _
  obtain ⟨w1, hw1⟩ : ∃ w1, w1 = putRow (Value.int .i64) (Sort.ahead c.w n) (c.ρ 0) 0 (srt l).toArray := ⟨_, rfl⟩
  have hoth : ∀ b, b ≠ c.ρ 0 → w1.heap[b]? = c.w.heap[b]? := fun b hb => by
    rw [hw1]
    show (c.w.heap.modify _ _)[b]? = _
    rw [Array.getElem?_modify, if_neg (Ne.symm hb)]
  have hsz : w1.heap.size = c.w.heap.size := by rw [hw1, size_putRow]; rfl
  have hb1 : Blk w1 (c.ρ 0) ((srt l).map (Value.int .i64) ++ ys) t0 := by
    obtain ⟨fz, hb, hf⟩ := hblk
    refine ⟨fz, ?_, ?_⟩
    · rw [hw1]
      show (c.w.heap.modify _ _)[c.ρ 0]? = _
      rw [Array.getElem?_modify, if_pos rfl, hb]
      show some (Obj.cells (putCells (Value.int .i64) 0 (srt l).toArray _) t0 fz) = _
      congr 2
      apply Array.ext_getElem?
      intro k
      simp only [putCells, Array.getElem?_mapIdx, List.getElem?_toArray, Nat.zero_le, true_and, Nat.zero_add, Nat.sub_zero, List.size_toArray, srt_len]
      by_cases hk : k < l.length
      · rw [List.getElem?_append_left (by simpa using hk), List.getElem?_append_left (by rw [List.length_map, srt_len]; exact hk)]
        have hk2 : k < (srt l).length := by rw [srt_len]; exact hk
        simp [hk, hk2]
      · rw [List.getElem?_append_right (by simp; omega), List.getElem?_append_right (by rw [List.length_map, srt_len]; omega)]
        simp [hk, srt_len]
    · rcases hf with hf | hf
      · exact .inl hf
      · right
        simp only [List.length_append, List.length_map, srt_len] at hf ⊢
        exact hf
  have ho1 : Out c [(0, intO l)] (put [(0, intO l)] 0 (intO (srt l))) [] { c with w := w1 } := by
    refine Out.write hh hc rfl hG (by rw [hw1]; rfl) (by rw [hw1]; rfl) (by rw [hw1]; rfl) hsz ?_ hoth fun c' hc' hle => ?_
    · obtain ⟨fz, hb⟩ := hblk.at
      obtain ⟨fz1, hb1⟩ := hb1.at
      unfold bsize
      rw [hb, hb1]
      simp [srt_len]
    · subst hc'
      exact .inl ⟨_, t0, _, ys, hb1, rfl, rep_ints _ _⟩
  have hbel : Below w1.heap.size w1 (grow w1 os) := ⟨rfl, rfl, rfl, by rw [size_grow]; omega, fun k hk => by
    show (w1.heap ++ os)[k]? = _
    rw [Array.getElem?_append_left hk]⟩
  have ho2 := Out.later (c := { c with w := w1 }) ho1.heap ho1.ok (by show c.B = _; rw [hsz]; exact hB) hbel
  have hw2 : grow (putRow (Value.int .i64) (Sort.ahead c.w n) (c.ρ 0) 0 (l.mergeSort fun x y => decide (x ≤ y)).toArray) os = grow w1 os := by rw [hw1]; rfl
  rw [hw2]
  have hput : put [(0, intO l)] 0 (intO (srt l)) = [(0, intO (srt l))] := rfl
  exact ⟨Later { c with w := w1 } (grow w1 os), _, .tup .nul, _, [], rfl, rfl, hput ▸ ho1.trans ho2, ⟨[], rfl, rfl⟩, rfl, rfl⟩
end Go.V
