/- The contracts of slices.Sorted and maps.Keys at this translation: a table of numbers and its facts each (written by the kit's tool). Disks: the sorted keys of the two maps. -/
import Derived.Shelf.SlIterI.Nil
import Derived.Shelf.SortM.Plain
import Derived.Shelf.SortM.SortNone
import Derived.Test.YtmbldnahcmkpgaaDoorProg
import Derived.Test.YtmbldnahcmkpgaaDoorDb
import Derived.Test.YtmbldnahcmkpgaaDoorSg
namespace Go.Proofs.YtmbldnahcmkpgaaDoor
open Go.Shelf
def keys75_ren : Go.Shelf.Ren := ⟨fun | 7 => 75 | 10 => 80 | n => n, fun | 23 => 69 | 26 => 3 | 3 => 98 | 28 => 137 | 0 => 0 | 27 => 136 | 33 => 143 | 4 => 4 | n => n, fun | n => n⟩
theorem keys75 : Go.Proofs.SlLaysZI.n7 Tryd.prog keys75_ren := {
  mixed := by kernel_rfl
  f7 := ⟨Tryd.f75.name, by decide, Tryd.func75.trans (congrArg some (by kernel_rfl))⟩
  f10 := ⟨Tryd.f80.name, by decide, Tryd.func80.trans (congrArg some (by kernel_rfl))⟩
  t0 := Tryd.underlying0
  a0 := Tryd.isAgg0
  z0 := Tryd.sizeOf0
  v0 := Tryd.zeroValue0
  t4 := Tryd.underlying4
  a4 := Tryd.isAgg4
  z4 := Tryd.sizeOf4
  v4 := Tryd.zeroValue4
  t23 := Tryd.underlying69
  a23 := Tryd.isAgg69
  z23 := Tryd.sizeOf69
  v23 := Tryd.zeroValue69
  t26 := Tryd.underlying3
  a26 := Tryd.isAgg3
  z26 := Tryd.sizeOf3
  v26 := Tryd.zeroValue3
  t27 := Tryd.underlying136
  a27 := Tryd.isAgg136
  z27 := Tryd.sizeOf136
  v27 := Tryd.zeroValue136
  t28 := Tryd.underlying137
  a28 := Tryd.isAgg137
  z28 := Tryd.sizeOf137
  v28 := Tryd.zeroValue137
  t33 := Tryd.underlying143
  a33 := Tryd.isAgg143
  z33 := Tryd.sizeOf143
  v33 := Tryd.zeroValue143 }
def sorted74_ren : Go.Shelf.Ren := ⟨fun | 6 => 74 | 8 => 78 | 9 => 79 | 11 => 82 | 13 => 84 | 12 => 83 | 23 => 94 | 24 => 95 | 14 => 85 | 15 => 86 | 16 => 87 | 17 => 88 | 18 => 89 | 19 => 90 | 20 => 91 | 21 => 92 | 22 => 93 | 25 => 96 | 26 => 97 | 27 => 98 | 28 => 99 | 29 => 100 | 30 => 101 | 31 => 102 | n => n, fun | 26 => 3 | 28 => 137 | 24 => 44 | 0 => 0 | 3 => 3 | 37 => 85 | 48 => 109 | 50 => 112 | 4 => 4 | 40 => 149 | 39 => 148 | 45 => 154 | 5 => 5 | 9 => 9 | 51 => 158 | 55 => 162 | 57 => 164 | 58 => 165 | 33 => 143 | n => n, fun | n => n⟩
theorem sorted74 : Go.Proofs.SlLaysZI.n6 Tryd.prog sorted74_ren := {
  mixed := by kernel_rfl
  f6 := ⟨Tryd.f74.name, by decide, Tryd.func74.trans (congrArg some (by kernel_rfl))⟩
  f8 := ⟨Tryd.f78.name, by decide, Tryd.func78.trans (congrArg some (by kernel_rfl))⟩
  f11 := ⟨Tryd.f82.name, by decide, Tryd.func82.trans (congrArg some (by kernel_rfl))⟩
  t0 := Tryd.underlying0
  a0 := Tryd.isAgg0
  z0 := Tryd.sizeOf0
  v0 := Tryd.zeroValue0
  t24 := Tryd.underlying44
  a24 := Tryd.isAgg44
  z24 := Tryd.sizeOf44
  v24 := Tryd.zeroValue44
  t26 := Tryd.underlying3
  a26 := Tryd.isAgg3
  z26 := Tryd.sizeOf3
  v26 := Tryd.zeroValue3
  t28 := Tryd.underlying137
  a28 := Tryd.isAgg137
  z28 := Tryd.sizeOf137
  v28 := Tryd.zeroValue137
  i26 := by kernel_rfl }
def sort79_ren : Go.Shelf.Ren := ⟨fun | 5 => 79 | 8 => 84 | 7 => 83 | 19 => 94 | 20 => 95 | 10 => 85 | 11 => 86 | 12 => 87 | 13 => 88 | 14 => 89 | 15 => 90 | 16 => 91 | 17 => 92 | 18 => 93 | 30 => 96 | 31 => 97 | 32 => 98 | 33 => 99 | 34 => 100 | 35 => 101 | 40 => 102 | n => n, fun | 23 => 44 | 25 => 3 | 3 => 3 | 32 => 85 | 22 => 44 | 0 => 0 | 44 => 109 | 46 => 112 | 4 => 4 | 36 => 149 | 35 => 148 | 41 => 154 | 5 => 5 | 9 => 9 | 53 => 158 | 57 => 162 | 63 => 164 | 64 => 165 | n => n, fun | n => n⟩
theorem sort79 : Go.Proofs.SlLaysM.n5 Tryd.prog sort79_ren := {
  mixed := by kernel_rfl
  f5 := ⟨Tryd.f79.name, by decide, Tryd.func79.trans (congrArg some (by kernel_rfl))⟩
  f7 := ⟨Tryd.f83.name, by decide, Tryd.func83.trans (congrArg some (by kernel_rfl))⟩
  f8 := Tryd.func84.trans (congrArg some (by kernel_rfl))
  f10 := ⟨Tryd.f85.name, by decide, Tryd.func85.trans (congrArg some (by kernel_rfl))⟩
  f11 := ⟨Tryd.f86.name, by decide, Tryd.func86.trans (congrArg some (by kernel_rfl))⟩
  f12 := ⟨Tryd.f87.name, by decide, Tryd.func87.trans (congrArg some (by kernel_rfl))⟩
  f13 := ⟨Tryd.f88.name, by decide, Tryd.func88.trans (congrArg some (by kernel_rfl))⟩
  f14 := ⟨Tryd.f89.name, by decide, Tryd.func89.trans (congrArg some (by kernel_rfl))⟩
  f15 := ⟨Tryd.f90.name, by decide, Tryd.func90.trans (congrArg some (by kernel_rfl))⟩
  f16 := ⟨Tryd.f91.name, by decide, Tryd.func91.trans (congrArg some (by kernel_rfl))⟩
  f17 := ⟨Tryd.f92.name, by decide, Tryd.func92.trans (congrArg some (by kernel_rfl))⟩
  f18 := ⟨Tryd.f93.name, by decide, Tryd.func93.trans (congrArg some (by kernel_rfl))⟩
  f19 := Tryd.func94.trans (congrArg some (by kernel_rfl))
  f20 := Tryd.func95.trans (congrArg some (by kernel_rfl))
  f30 := ⟨Tryd.f96.name, by decide, Tryd.func96.trans (congrArg some (by kernel_rfl))⟩
  f31 := Tryd.func97.trans (congrArg some (by kernel_rfl))
  f32 := Tryd.func98.trans (congrArg some (by kernel_rfl))
  f33 := ⟨Tryd.f99.name, by decide, Tryd.func99.trans (congrArg some (by kernel_rfl))⟩
  f34 := ⟨Tryd.f100.name, by decide, Tryd.func100.trans (congrArg some (by kernel_rfl))⟩
  f35 := ⟨Tryd.f101.name, by decide, Tryd.func101.trans (congrArg some (by kernel_rfl))⟩
  f40 := ⟨Tryd.f102.name, by decide, Tryd.func102.trans (congrArg some (by kernel_rfl))⟩
  t0 := Tryd.underlying0
  a0 := Tryd.isAgg0
  z0 := Tryd.sizeOf0
  v0 := Tryd.zeroValue0
  t3 := Tryd.underlying3
  a3 := Tryd.isAgg3
  z3 := Tryd.sizeOf3
  v3 := Tryd.zeroValue3
  t4 := Tryd.underlying4
  a4 := Tryd.isAgg4
  z4 := Tryd.sizeOf4
  v4 := Tryd.zeroValue4
  t5 := Tryd.underlying5
  a5 := Tryd.isAgg5
  z5 := Tryd.sizeOf5
  v5 := Tryd.zeroValue5
  t9 := Tryd.underlying9
  a9 := Tryd.isAgg9
  z9 := Tryd.sizeOf9
  v9 := Tryd.zeroValue9
  t22 := Tryd.underlying44
  a22 := Tryd.isAgg44
  z22 := Tryd.sizeOf44
  v22 := Tryd.zeroValue44
  t23 := Tryd.underlying44
  a23 := Tryd.isAgg44
  z23 := Tryd.sizeOf44
  v23 := Tryd.zeroValue44
  t25 := Tryd.underlying3
  a25 := Tryd.isAgg3
  z25 := Tryd.sizeOf3
  v25 := Tryd.zeroValue3
  t32 := Tryd.underlying85
  a32 := Tryd.isAgg85
  z32 := Tryd.sizeOf85
  v32 := Tryd.zeroValue85
  t35 := Tryd.underlying148
  a35 := Tryd.isAgg148
  z35 := Tryd.sizeOf148
  v35 := Tryd.zeroValue148
  t36 := Tryd.underlying149
  a36 := Tryd.isAgg149
  z36 := Tryd.sizeOf149
  v36 := Tryd.zeroValue149
  t41 := Tryd.underlying154
  a41 := Tryd.isAgg154
  z41 := Tryd.sizeOf154
  v41 := Tryd.zeroValue154
  t44 := Tryd.underlying109
  a44 := Tryd.isAgg109
  z44 := Tryd.sizeOf109
  v44 := Tryd.zeroValue109
  t46 := Tryd.underlying112
  a46 := Tryd.isAgg112
  z46 := Tryd.sizeOf112
  v46 := Tryd.zeroValue112
  t53 := Tryd.underlying158
  a53 := Tryd.isAgg158
  z53 := Tryd.sizeOf158
  v53 := Tryd.zeroValue158
  t57 := Tryd.underlying162
  a57 := Tryd.isAgg162
  z57 := Tryd.sizeOf162
  v57 := Tryd.zeroValue162
  t63 := Tryd.underlying164
  a63 := Tryd.isAgg164
  z63 := Tryd.sizeOf164
  v63 := Tryd.zeroValue164
  t64 := Tryd.underlying165
  a64 := Tryd.isAgg165
  z64 := Tryd.sizeOf165
  v64 := Tryd.zeroValue165 }
end Go.Proofs.YtmbldnahcmkpgaaDoor

namespace Go.Proofs.YtmbldnahcmkpgaaDoor
open Go.V Go.RowKit Go.L Go.Dk Go.Maps Go.Shelf
theorem sorts_ok (m : Nat) : AnyZI.SortsIn Tryd.prog sorted74_ren Fence.wide m :=
  ⟨fun blk off cap ss W hH hblk hsz => callsIn_wide.2 (AnyM.slices_Sort_int sort79 blk off cap ss W hH hblk hsz),
   fun p cap W => callsIn_wide.2 (AnyM.slices_Sort_int_none sort79 p cap W)⟩
def intsT (l : List Int) : AV := .rsl true l.length 1 (fun i => .int .i64 (l.getD i 0))
theorem int_wf {k : Int} (h : -9223372036854775808 ≤ k ∧ k ≤ 9223372036854775807) : (Lit.int .i64 k).wf = true := by
  simp only [Lit.wf, IntKind.min, IntKind.max, IntKind.signed, IntKind.bits, Bool.and_eq_true, decide_eq_true_eq]
  simpa using h
set_option maxHeartbeats 1000000 in
theorem sortedP_ok (P : PM) (hnd : (P.map (·.1)).Nodup) (hb : ∀ q ∈ P, i64B q.1) (hl : P.length ≤ 1048576) :
    Ok Tryd.prog 74 [] [(2, pendA P), (4, .mp 2)] (.pair (.fn (.func 80) .nul (.pair (.ptr 4 []) .nul)) .nul) (fun r h' => r = intsT (sortI (P.map (·.1))) ∧ h' = [(2, pendA P)]) := by
  refine Ok.of_callsH (h1 := [(2, pendA P)]) (fun i av hi => ?_) fun c vs hc hB hh hvs => ?_
  · rw [get?_cons] at hi ⊢
    split at hi
    · rename_i e; rw [if_pos e]; exact hi
    · cases hi
  have hG2 : ¬ c.G 4 ∧ ¬ c.G 2 := by
    obtain ⟨v, vs', rfl, hv, hn⟩ := hvs
    obtain ⟨fs, cs, _, hfs, hcs⟩ := hv
    obtain ⟨x, y, rfl, hx, hy⟩ := hcs
    have ho := hh.obj 4 (.mp 2) rfl hx.2.1
    obtain ⟨cs, t, xs, ys, hb1, hc1, hr⟩ := ho.cells rfl
    exact ⟨hx.2.1, hr.2.1⟩
  obtain ⟨es, clock, hbk, hn, hes, h1, h2⟩ := mapAt_of (K := KI) (V := blkA) (d := (0, [])) (l := P) hh rfl hG2.2
  have hkeys := map_keys keyI hn hes
  obtain ⟨D0, hown, hperm, hsize⟩ := owns_of (P := Tryd.prog) u_int hbk hkeys hnd (fun k hk => by
    obtain ⟨q, hq, rfl⟩ := List.mem_map.1 hk
    exact int_wf (hb q hq)) h1 h2 (by rw [List.length_map]; unfold maxLen; omega)
  obtain ⟨cs4, t4, xs4, ys4, hb4, rfl, hr4⟩ := (hh.obj 4 (.mp 2) rfl hG2.1).cells rfl
  have hr4 := hr4.2.2
  subst hr4
  have hcell : c.w.cell? ⟨c.ρ 4, 0, none⟩ = some (.map (some (c.ρ 2))) := by
    exact hb4.cell rfl
  have hlt4 : c.ρ 4 < c.w.heap.size := (hh.obj 4 (.mp 2) rfl hG2.1).lt
  obtain ⟨v, vs', rfl, hv, hnul⟩ := hvs
  have hnul : vs' = [] := hnul
  subst hnul
  obtain ⟨fs, cs, hv, hfs, hcs⟩ := hv
  simp only [List.cons.injEq, and_true] at hv
  subst hv
  have hfs : fs = [] := hfs
  subst hfs
  obtain ⟨x, y, rfl, hx, hy⟩ := hcs
  have hy : y = [] := hy
  subst hy
  have hx := hx.2.2
  simp only [List.cons.injEq, and_true] at hx
  subst hx
  have hseq : SeqGives Fence.wide 2 Tryd.prog 80 #[.pointer (some ⟨c.ρ 4, 0, none⟩)] encZ (fun ss => ss.Perm (intKeys D0)) (Maps.size D0) c.w :=
    AnyZI.keys_gives (ρ := keys75_ren) { keys75 with } Fence.wide _ trivial rfl (by omega) (c.ρ 4) (c.ρ 2) _ D0 _ hlt4 hcell hown
  have cS := AnyZI.sorted_in sorted74 Fence.wide 5 trivial trivial trivial trivial rfl (by omega) (sorts_ok _) (enters_of Tryd.func79 (by kernel_rfl) rfl) 80 #[.pointer (some ⟨c.ρ 4, 0, none⟩)] trivial (enters_of Tryd.func80 (by kernel_rfl) rfl) _ (Maps.size D0) (by rw [hsize, List.length_map]; unfold maxLen; omega) (by rw [hsize, List.length_map]; omega) _ hseq
  refine (callsIn_wide.1 cS).mono fun e w' h => ?_
  obtain ⟨v, ss, rfl, hS, hrow, _, hbel⟩ := h
  refine ⟨hbel, v, _, rfl, ⟨rfl, rfl⟩, ?_⟩
  have hE : ss.mergeSort (fun x y => decide (x ≤ y)) = sortI (P.map (·.1)) := mergeSort_of_perm_i (hS.trans hperm)
  have hL : ss.length = (sortI (P.map (·.1))).length := by rw [← hE]; exact (List.mergeSort_perm _ _).length_eq.symm
  rw [hE, hL] at hrow
  exact rep_ownsRow hB hbel hrow
theorem keysP_ok (P : PM) : Ok Tryd.prog 75 [] [(2, pendA P)] (.pair (.mp 2) .nul) (fun r h' => r = .fn (.func 80) .nul (.pair (.ptr 3 []) .nul) ∧ h' = [(3, .mp 2), (2, pendA P)]) := by
  refine Ok.of_vc tt_ok Tryd.func75 rfl rfl (by show 1 ≤ _; decide) 3 (hlt_ok (by rfl)) fun c0 => ?_
  repeat' (first | (refine SS_ ?_) | fail)
  exact retQ_ok (by rfl) [(3, .mp 2), (2, pendA P)] (subL_ok ⟨rfl, rfl, trivial⟩) ⟨rfl, rfl⟩
section
variable {n : Nat} {B : List Bs} {P : PM} {W : WM} {off : Bool} {left : Int}
set_option maxRecDepth 10000 in
theorem pending_ok (hnd : (P.map (·.1)).Nodup) (hb : ∀ q ∈ P, i64B q.1) (hl : P.length ≤ 1048576) : Ok Tryd.prog 68 [] (dH n B P W off left) (.pair (.ptr 0 []) .nul) (fun r h' => r = intsT (sortI (P.map (·.1))) ∧ h' = dH n B P W off left) := by
  have c1 := keysP_ok P
  have c2 := sortedP_ok P hnd hb hl
  generalize sortI (P.map (·.1)) = L at *
  refine Ok.of_vc tt_ok Tryd.func68 rfl rfl (by show 1 ≤ _; decide) 4 (hlt_ok (by rfl)) fun c0 => ?_
  refine S_ ?_
  refine Seq.callo false [] [(4, 3)] (.fn (.func 80) .nul (.pair (.ptr 4 []) .nul)) ([(4, .mp 2), (2, pendA P)]) 5 (c1) Tryd.func75 GOk.nil subG.nil (by rfl) (by rfl) rfl rfl rfl rfl rfl (by rfl) rfl (by rfl) (by rfl) (by rfl) (by rfl) VW_ NI_ R_ (noFrL_ok NI_) BK_ ?_
  refine S_ ?_
  refine Seq.callo false [] [] (intsT L) ([(2, pendA P)]) 5 (c2) Tryd.func74 GOk.nil subG.nil (by rfl) (by rfl) rfl rfl rfl rfl rfl (by rfl) rfl (by rfl) (by rfl) (by rfl) (by rfl) VW_ NI_ R_ (noFrL_ok NI_) BK_ ?_
  refine S_ ?_
  exact retQ_ok (by rfl) (dH n B P W off left) (subL_ok ⟨rfl, rfl, rfl, rfl, trivial⟩) ⟨rfl, rfl⟩
end
end Go.Proofs.YtmbldnahcmkpgaaDoor
