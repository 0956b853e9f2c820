/- The contracts of slices.Sorted and maps.Keys at this translation: a table of numbers and its facts each (written by the kit's tool). A map's keys, sorted by the library: the kit's contract as one over abstract values. slices.Sort over an own slice of numbers: the kit's contract as one over abstract values. -/
import Derived.Shelf.SlIterI.Nil
import Derived.Shelf.SortM.Plain
import Derived.Shelf.SortM.SortNone
import Derived.Test.YtkpidpmlehkjbaaProg
import Derived.Test.YtkpidpmlehkjbaaFe
namespace Go.Proofs.Ytkpidpmlehkjbaa
open Go.Shelf
def sort46_ren : Go.Shelf.Ren := ⟨fun | 5 => 46 | 8 => 55 | 7 => 54 | 19 => 65 | 20 => 66 | 10 => 56 | 11 => 57 | 12 => 58 | 13 => 59 | 14 => 60 | 15 => 61 | 16 => 62 | 17 => 63 | 18 => 64 | 30 => 67 | 31 => 68 | 32 => 69 | 33 => 70 | 34 => 71 | 35 => 72 | 40 => 73 | n => n, fun | 23 => 22 | 25 => 3 | 3 => 3 | 32 => 95 | 22 => 22 | 0 => 0 | 44 => 105 | 46 => 107 | 4 => 4 | 36 => 98 | 35 => 97 | 41 => 102 | 5 => 5 | 9 => 9 | 53 => 108 | 57 => 112 | 63 => 114 | 64 => 115 | n => n, fun | n => n⟩
theorem sort46 : Go.Proofs.SlLaysM.n5 Try.prog sort46_ren := {
  mixed := by kernel_rfl
  f5 := ⟨Try.f46.name, by decide, Try.func46.trans (congrArg some (by kernel_rfl))⟩
  f7 := ⟨Try.f54.name, by decide, Try.func54.trans (congrArg some (by kernel_rfl))⟩
  f8 := Try.func55.trans (congrArg some (by kernel_rfl))
  f10 := ⟨Try.f56.name, by decide, Try.func56.trans (congrArg some (by kernel_rfl))⟩
  f11 := ⟨Try.f57.name, by decide, Try.func57.trans (congrArg some (by kernel_rfl))⟩
  f12 := ⟨Try.f58.name, by decide, Try.func58.trans (congrArg some (by kernel_rfl))⟩
  f13 := ⟨Try.f59.name, by decide, Try.func59.trans (congrArg some (by kernel_rfl))⟩
  f14 := ⟨Try.f60.name, by decide, Try.func60.trans (congrArg some (by kernel_rfl))⟩
  f15 := ⟨Try.f61.name, by decide, Try.func61.trans (congrArg some (by kernel_rfl))⟩
  f16 := ⟨Try.f62.name, by decide, Try.func62.trans (congrArg some (by kernel_rfl))⟩
  f17 := ⟨Try.f63.name, by decide, Try.func63.trans (congrArg some (by kernel_rfl))⟩
  f18 := ⟨Try.f64.name, by decide, Try.func64.trans (congrArg some (by kernel_rfl))⟩
  f19 := Try.func65.trans (congrArg some (by kernel_rfl))
  f20 := Try.func66.trans (congrArg some (by kernel_rfl))
  f30 := ⟨Try.f67.name, by decide, Try.func67.trans (congrArg some (by kernel_rfl))⟩
  f31 := Try.func68.trans (congrArg some (by kernel_rfl))
  f32 := Try.func69.trans (congrArg some (by kernel_rfl))
  f33 := ⟨Try.f70.name, by decide, Try.func70.trans (congrArg some (by kernel_rfl))⟩
  f34 := ⟨Try.f71.name, by decide, Try.func71.trans (congrArg some (by kernel_rfl))⟩
  f35 := ⟨Try.f72.name, by decide, Try.func72.trans (congrArg some (by kernel_rfl))⟩
  f40 := ⟨Try.f73.name, by decide, Try.func73.trans (congrArg some (by kernel_rfl))⟩
  t0 := Try.underlying0
  a0 := Try.isAgg0
  z0 := Try.sizeOf0
  v0 := Try.zeroValue0
  t3 := Try.underlying3
  a3 := Try.isAgg3
  z3 := Try.sizeOf3
  v3 := Try.zeroValue3
  t4 := Try.underlying4
  a4 := Try.isAgg4
  z4 := Try.sizeOf4
  v4 := Try.zeroValue4
  t5 := Try.underlying5
  a5 := Try.isAgg5
  z5 := Try.sizeOf5
  v5 := Try.zeroValue5
  t9 := Try.underlying9
  a9 := Try.isAgg9
  z9 := Try.sizeOf9
  v9 := Try.zeroValue9
  t22 := Try.underlying22
  a22 := Try.isAgg22
  z22 := Try.sizeOf22
  v22 := Try.zeroValue22
  t23 := Try.underlying22
  a23 := Try.isAgg22
  z23 := Try.sizeOf22
  v23 := Try.zeroValue22
  t25 := Try.underlying3
  a25 := Try.isAgg3
  z25 := Try.sizeOf3
  v25 := Try.zeroValue3
  t32 := Try.underlying95
  a32 := Try.isAgg95
  z32 := Try.sizeOf95
  v32 := Try.zeroValue95
  t35 := Try.underlying97
  a35 := Try.isAgg97
  z35 := Try.sizeOf97
  v35 := Try.zeroValue97
  t36 := Try.underlying98
  a36 := Try.isAgg98
  z36 := Try.sizeOf98
  v36 := Try.zeroValue98
  t41 := Try.underlying102
  a41 := Try.isAgg102
  z41 := Try.sizeOf102
  v41 := Try.zeroValue102
  t44 := Try.underlying105
  a44 := Try.isAgg105
  z44 := Try.sizeOf105
  v44 := Try.zeroValue105
  t46 := Try.underlying107
  a46 := Try.isAgg107
  z46 := Try.sizeOf107
  v46 := Try.zeroValue107
  t53 := Try.underlying108
  a53 := Try.isAgg108
  z53 := Try.sizeOf108
  v53 := Try.zeroValue108
  t57 := Try.underlying112
  a57 := Try.isAgg112
  z57 := Try.sizeOf112
  v57 := Try.zeroValue112
  t63 := Try.underlying114
  a63 := Try.isAgg114
  z63 := Try.sizeOf114
  v63 := Try.zeroValue114
  t64 := Try.underlying115
  a64 := Try.isAgg115
  z64 := Try.sizeOf115
  v64 := Try.zeroValue115 }
end Go.Proofs.Ytkpidpmlehkjbaa

namespace Go.V
open Go.RowKit Go.L Go.Maps Go.Proofs Go.Shelf
theorem Out.later {c : Ctx} {h : Asc} {w' : World} (hh : HeapRep c h) (hc : CtxOk c) (hB : c.B = c.w.heap.size) (hb : Below c.w.heap.size c.w w') : Out c h h [] (Later c w') := by
  have h0 := out_later hc hB hb
  refine ⟨h0.le, h0.B, h0.A, ⟨fun id av hi => hh.A id av hi, fun id av hi hg => ?_, fun id av hi hg => hh.gh id av hi hg, fun id av hi hg hS => ?_, fun i j a b hi hj hgi hgj e => hh.inj i j a b hi hj hgi hgj e⟩, h0.ok, h0.os, h0.tape, h0.output, h0.size, fun b hb' _ => hb.block b hb', fun id av hi hg => .inl ⟨id, av, hi, hg, rfl⟩, fun b hS => ?_⟩
  · exact (hh.obj id av hi hg).le h0.le (hb.block _ (hh.obj id av hi hg).lt)
  · have hlt := (hh.obj id av hi hg).lt
    rcases hS with hS | hS
    · exact hh.nS id av hi hg hS
    · have : c.w.heap.size ≤ c.ρ id := hS.1
      omega
  · rcases hS with hS | hS
    · exact .inl hS
    · exact .inr (.inl hS.1)
end Go.V

namespace Go.V
open Go.RowKit Go.L Go.Maps Go.Proofs Go.Shelf Go.Sort
abbrev intO (l : List Int) : AV := .arr l.length 1 (fun i => .int .i64 (l.getD i 0))
def srt (l : List Int) : List Int := l.mergeSort fun x y => decide (x ≤ y)
theorem srt_len (l : List Int) : (srt l).length = l.length := (List.mergeSort_perm _ _).length_eq
theorem ints_of {c : Ctx} {l : List Int} {xs : List Value} (h : Rep c (intO l) .C xs) : xs = l.map (Value.int .i64) := by
  obtain ⟨hl, h⟩ := h
  rw [Nat.mul_one] at hl
  refine List.ext_getElem (by rw [hl, List.length_map]) fun i h1 h2 => ?_
  have hi : i < l.length := by omega
  have h3 : sub xs (i * 1) 1 = [.int .i64 (l.getD i 0)] := h i hi
  have h4 := congrArg (fun q => q[0]?) h3
  rw [Nat.mul_one] at h4
  simp only [sub_get, Nat.add_zero, Nat.lt_one_iff, if_true, List.getElem?_cons_zero] at h4
  rw [List.getElem?_eq_getElem h1, List.getD_eq_getElem?_getD, List.getElem?_eq_getElem hi, Option.getD_some] at h4
  rw [List.getElem_map]
  exact Option.some.inj h4
theorem rep_ints (c : Ctx) (l : List Int) : Rep c (intO l) .C (l.map (Value.int .i64)) := by
  refine ⟨by simp, fun i hi => ?_⟩
  show sub (l.map (Value.int .i64)) (i * 1) 1 = [.int .i64 (l.getD i 0)]
  apply List.ext_getElem?
  intro j
  rw [sub_get, Nat.mul_one]
  split
  · obtain rfl : j = 0 := by omega
    simp [hi]
  · rw [List.getElem?_eq_none (by simp; omega)]
theorem sort_ok {P : Program} {f : FuncId}
    (H : ∀ (blk off cap : Nat) (zs : List Int) (w : World), Holds (Value.int .i64) w blk off zs.toArray → blk < w.heap.size → zs.length < 4611686018427387904 →
      Calls P f #[.slice (some ⟨blk, off, none⟩) zs.length cap] w fun e w' => e = .returned (.tuple #[]) ∧ ∃ n os, w' = grow (putRow (Value.int .i64) (Sort.ahead w n) blk off (zs.mergeSort fun x y => decide (x ≤ y)).toArray) os)
    (H0 : ∀ (p : Option Addr) (cap : Nat) (w : World), Calls P f #[.slice p 0 cap] w fun e w' => e = .returned (.tuple #[]) ∧ w' = w) (l : List Int) (hl : l.length < 4611686018427387904) :
    Ok P f [] [(0, intO l)] (.pair (.sl 0 [] 1 0 l.length) .nul) (fun r h' => r = .tup .nul ∧ h' = [(0, intO (srt l))]) := by
  intro c hg hh hc hB hA vs hvs
  obtain ⟨v, vs', rfl, hv, hnul⟩ := hvs
  have hnul : vs' = [] := hnul
  subst hnul
  have hempty : ∀ (p : Option Addr) (cap : Nat), l = [] → v = .slice p 0 cap → Calls P f [v].toArray c.w fun e w' => ∃ c' v' r h' ns, e = .returned v' ∧ c'.w = w' ∧ Out c [(0, intO l)] h' ns c' ∧ Rep c' r .V [v'] ∧ (r = .tup .nul ∧ h' = [(0, intO (srt l))]) := by
    rintro p cap rfl rfl
    refine (H0 p cap c.w).mono fun e w' h => ?_
    obtain ⟨rfl, rfl⟩ := h
    exact ⟨c, _, .tup .nul, _, [], rfl, rfl, Out.refl hh hc, ⟨[], rfl, rfl⟩, rfl, by rw [show srt [] = [] from List.Perm.eq_nil (List.mergeSort_perm _ _)]⟩
  obtain ⟨hA0, ⟨_, hz, ad, hvv⟩ | ⟨hG, o, cap, hvv, ho2, h3, h4, h5⟩⟩ := rep_sl hv
  · exact hempty ad 0 (List.length_eq_zero_iff.1 hz) hvv
  by_cases hl0 : l = []
  · subst hl0
    exact hempty _ cap rfl hvv
  have hpos : 0 < l.length := List.length_pos_iff.2 hl0
  obtain rfl : o = 0 := by
    rcases ho2 with h | h
    · omega
    · simpa [pathOff] using h
  subst hvv
  obtain ⟨cs, t0, xs, ys, hblk, rfl, hr⟩ := (hh.obj 0 _ rfl hG).cells rfl
  have hxs := ints_of hr
  subst hxs
  have hHolds : Holds (Value.int .i64) c.w (c.ρ 0) 0 l.toArray := fun j hj => by
    have hj : j < l.length := by simpa using hj
    refine ⟨?_, hblk.free (by simp; omega)⟩
    rw [Nat.zero_add]
    refine hblk.cell ?_
    rw [List.getElem?_append_left (by simpa using hj)]
    simp [hj]
  refine (H (c.ρ 0) 0 cap l c.w hHolds hblk.lt hl).mono fun e w' h => ?_
  obtain ⟨rfl, n, os, rfl⟩ := h
  show ∃ c' v' r h' ns, _
  obtain ⟨w1, hw1⟩ : ∃ w1, w1 = putRow (Value.int .i64) (Sort.ahead c.w n) (c.ρ 0) 0 (srt l).toArray := ⟨_, rfl⟩
  have hoth : ∀ b, b ≠ c.ρ 0 → w1.heap[b]? = c.w.heap[b]? := fun b hb => by
    rw [hw1]
    show (c.w.heap.modify _ _)[b]? = _
    rw [Array.getElem?_modify, if_neg (Ne.symm hb)]
  have hsz : w1.heap.size = c.w.heap.size := by rw [hw1, size_putRow]; rfl
  have hb1 : Blk w1 (c.ρ 0) ((srt l).map (Value.int .i64) ++ ys) t0 := by
    obtain ⟨fz, hb, hf⟩ := hblk
    refine ⟨fz, ?_, ?_⟩
    · rw [hw1]
      show (c.w.heap.modify _ _)[c.ρ 0]? = _
      rw [Array.getElem?_modify, if_pos rfl, hb]
      show some (Obj.cells (putCells (Value.int .i64) 0 (srt l).toArray _) t0 fz) = _
      congr 2
      apply Array.ext_getElem?
      intro k
      simp only [putCells, Array.getElem?_mapIdx, List.getElem?_toArray, Nat.zero_le, true_and, Nat.zero_add, Nat.sub_zero, List.size_toArray, srt_len]
      by_cases hk : k < l.length
      · rw [List.getElem?_append_left (by simpa using hk), List.getElem?_append_left (by rw [List.length_map, srt_len]; exact hk)]
        have hk2 : k < (srt l).length := by rw [srt_len]; exact hk
        simp [hk, hk2]
      · rw [List.getElem?_append_right (by simp; omega), List.getElem?_append_right (by rw [List.length_map, srt_len]; omega)]
        simp [hk, srt_len]
    · rcases hf with hf | hf
      · exact .inl hf
      · right
        simp only [List.length_append, List.length_map, srt_len] at hf ⊢
        exact hf
  have ho1 : Out c [(0, intO l)] (put [(0, intO l)] 0 (intO (srt l))) [] { c with w := w1 } := by
    refine Out.write hh hc rfl hG (by rw [hw1]; rfl) (by rw [hw1]; rfl) (by rw [hw1]; rfl) hsz ?_ hoth fun c' hc' hle => ?_
    · obtain ⟨fz, hb⟩ := hblk.at
      obtain ⟨fz1, hb1⟩ := hb1.at
      unfold bsize
      rw [hb, hb1]
      simp [srt_len]
    · subst hc'
      exact .inl ⟨_, t0, _, ys, hb1, rfl, rep_ints _ _⟩
  have hbel : Below w1.heap.size w1 (grow w1 os) := ⟨rfl, rfl, rfl, by rw [size_grow]; omega, fun k hk => by
    show (w1.heap ++ os)[k]? = _
    rw [Array.getElem?_append_left hk]⟩
  have ho2 := Out.later (c := { c with w := w1 }) ho1.heap ho1.ok (by show c.B = _; rw [hsz]; exact hB) hbel
  have hw2 : grow (putRow (Value.int .i64) (Sort.ahead c.w n) (c.ρ 0) 0 (l.mergeSort fun x y => decide (x ≤ y)).toArray) os = grow w1 os := by rw [hw1]; rfl
  rw [hw2]
  have hput : put [(0, intO l)] 0 (intO (srt l)) = [(0, intO (srt l))] := rfl
  exact ⟨Later { c with w := w1 } (grow w1 os), _, .tup .nul, _, [], rfl, rfl, hput ▸ ho1.trans ho2, ⟨[], rfl, rfl⟩, rfl, rfl⟩
end Go.V
