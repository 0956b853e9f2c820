/- Budgets: the reference's book: its memory, Remove, known. Budgets: Take, the reference's New. Budgets: the reference's Ask. Budgets: limits made of numbers. Budgets: costs made of numbers. Budgets: a book and the reference's one. Budgets: what is begun. Budgets: what happens to a book. Budgets: the documented example, plain; scripts, plain. Budgets: equal books. Budgets: the nil book; the documented example. Budgets: what is well made stays so. Budgets: scripts. Budgets: an act, whatever comes of it. Releases: Ask. -/
import Derived.Test.YtdbebdjnpckfdaaDoorRm
import Derived.Test.YtdbebdjnpckfdaaDoorFr
import Derived.Test.YtdbebdjnpckfdaaDoorQl
import Derived.Test.YtdbebdjnpckfdaaDoorQm
set_option linter.unusedSimpArgs false
set_option linter.unusedVariables false
namespace Go.Proofs.YtdbebdjnpckfdaaDoor
open Go.V Go.RowKit Go.L Go.Lx Go.Rt Go.Bg
set_option maxRecDepth 10000
set_option maxHeartbeats 4000000
end Go.Proofs.YtdbebdjnpckfdaaDoor

namespace Go.Proofs.YtdbebdjnpckfdaaDoor
open Go.V Go.RowKit Go.L Go.Lx Go.Rt Go.Bg
set_option maxRecDepth 10000
set_option maxHeartbeats 4000000
end Go.Proofs.YtdbebdjnpckfdaaDoor

namespace Go.Bg
open Go.Rt Go.Lx
end Go.Bg
namespace Go.Proofs.YtdbebdjnpckfdaaDoor
open Go.V Go.RowKit Go.L Go.Lx Go.Rt Go.Bg
set_option maxRecDepth 10000
set_option maxHeartbeats 4000000
end Go.Proofs.YtdbebdjnpckfdaaDoor

namespace Go.Bg
open Go.Rt Go.Lx
end Go.Bg
namespace Go.Proofs.YtdbebdjnpckfdaaDoor
open Go.V Go.RowKit Go.L Go.Lx Go.Rt Go.Bg
set_option maxRecDepth 10000
set_option maxHeartbeats 4000000
end Go.Proofs.YtdbebdjnpckfdaaDoor

namespace Go.Bg
open Go.Rt Go.Lx
def qs : List Int := [1, 2, 3, 4, 6]
end Go.Bg
namespace Go.Proofs.YtdbebdjnpckfdaaDoor
open Go.V Go.RowKit Go.L Go.Lx Go.Rt Go.Bg
set_option maxRecDepth 10000
set_option maxHeartbeats 4000000
end Go.Proofs.YtdbebdjnpckfdaaDoor

namespace Go.Bg
open Go.Rt
end Go.Bg
namespace Go.Proofs.YtdbebdjnpckfdaaDoor
open Go.V Go.RowKit Go.L Go.Lx Go.Rt Go.Bg
set_option maxRecDepth 10000
set_option maxHeartbeats 4000000
end Go.Proofs.YtdbebdjnpckfdaaDoor

namespace Go.Bg
open Go.Rt Go.Lx
/-- What New makes is well made. -/
theorem new_bok {P : List Rq} {W : List Int} {O : List Rq} (h : newE P W O = 0) : BOk (newB P W O) := by
  unfold newE at h
  by_cases h1 : 256 < P.length ∨ 16 < O.length
  · rw [if_pos h1] at h; cases h
  rw [if_neg h1] at h
  have hno : ¬ (W.length ≠ P.length ∨ (W.any fun x => decide (x < 0 ∨ (O.length : Int) ≤ x)) = true ∨ (P.any fun r => !isCost r) = true ∨ (O.any fun r => !isCost r) = true) := fun hh => by rw [if_pos hh] at h; cases h
  have hz : valid rz = true ∧ 0 ≤ rz.P := by decide
  have hac : ∀ l : List Rq, ¬ (l.any fun r => !isCost r) = true → ∀ x ∈ accs l, AOk x := fun l hl x hx => by
    unfold accs at hx
    obtain ⟨r, hr, rfl⟩ := List.mem_map.1 hx
    refine ⟨cost_iff.1 ?_, hz⟩
    cases hc : isCost r with
    | true => rfl
    | false => exact absurd (List.any_eq_true.2 ⟨r, hr, by rw [hc]; rfl⟩) hl
  refine ⟨?_, ?_, hac P fun hh => hno (.inr (.inr (.inl hh))), hac O fun hh => hno (.inr (.inr (.inr hh))), ⟨?_, fun x hx => ?_⟩, ?_⟩
  · show (accs P).length ≤ 256
    rw [accs_len]; omega
  · show (accs O).length ≤ 16
    rw [accs_len]; omega
  · show W.length = (accs P).length
    rw [accs_len]; exact Decidable.byContradiction fun hh => hno (.inl hh)
  · show 0 ≤ x ∧ x < (accs O).length
    rw [accs_len]
    refine Decidable.byContradiction fun hh => hno (.inr (.inl (List.any_eq_true.2 ⟨x, hx, decide_eq_true (by omega)⟩)))
  · show (List.replicate P.length false).length = (accs P).length
    rw [accs_len, List.length_replicate]
end Go.Bg
namespace Go.Proofs.YtdbebdjnpckfdaaDoor
open Go.V Go.RowKit Go.L Go.Lx Go.Rt Go.Bg
set_option maxRecDepth 10000
set_option maxHeartbeats 4000000
theorem cost_r64 {l : List Rq} (h : ∀ r ∈ l, isCost r = true) : ∀ r ∈ l, R64 r := fun r hr => valid_r64 (cost_iff.1 (h r hr)).1
end Go.Proofs.YtdbebdjnpckfdaaDoor

namespace Go.Bg
open Go.Rt Go.Lx
structure ActS where
  R : Bool
  P : List Int
  C : Rq
end Go.Bg
namespace Go.Proofs.YtdbebdjnpckfdaaDoor
open Go.V Go.RowKit Go.L Go.Lx Go.Rt Go.Bg
set_option maxRecDepth 10000
set_option maxHeartbeats 4000000
end Go.Proofs.YtdbebdjnpckfdaaDoor

namespace Go.Bg
open Go.Rt Go.Lx
abbrev two : Rq := ⟨2, 1⟩
end Go.Bg

namespace Go.Proofs.YtdbebdjnpckfdaaDoor
open Go.V Go.RowKit Go.L Go.Lx Go.Rt Go.Bg
set_option maxRecDepth 10000
set_option maxHeartbeats 4000000
end Go.Proofs.YtdbebdjnpckfdaaDoor

namespace Go.Proofs.YtdbebdjnpckfdaaDoor
open Go.V Go.RowKit Go.L Go.Lx Go.Rt Go.Bg
set_option maxRecDepth 10000
set_option maxHeartbeats 4000000
abbrev nilP : AV := .val (.pointer none)
end Go.Proofs.YtdbebdjnpckfdaaDoor

namespace Go.Bg
open Go.Rt Go.Lx
theorem chg_ok {c : Rq} (hc : isCost c = true) : ∀ (l : List Int) (A : List Acc) (ov : Bool), (∀ x ∈ A, AOk x) → (∀ p ∈ l, 0 ≤ p ∧ p < A.length) → (chg A ov c l).e = 0 → (chg A ov c l).A.length = A.length ∧ ∀ x ∈ (chg A ov c l).A, AOk x
  | [], A, ov, hA, _, _ => ⟨rfl, hA⟩
  | p :: r, A, ov, hA, hl, he => by
    unfold chg at he ⊢
    have hp := hl p List.mem_cons_self
    by_cases hz : acE (A.getD p.toNat accZ) c ≠ 0
    · rw [if_pos hz] at he; exact absurd he hz
    · rw [if_neg hz] at he ⊢
      have hz : acE (A.getD p.toNat accZ) c = 0 := Decidable.byContradiction hz
      have ih := chg_ok hc r _ _ (set_ok (i := p.toNat) hA (acV_ok (get_ok hA (by omega)) hc hz)) (fun q hq => by rw [List.length_set]; exact hl q (List.mem_cons_of_mem _ hq)) he
      rw [List.length_set] at ih
      exact ih
theorem chO_ok {W l : List Int} {c : Rq} (hc : isCost c = true) (hn : l.length ≤ 256) : ∀ (n o : Nat) (A : List Acc) (ov : Bool), (∀ x ∈ A, AOk x) → o + n = A.length → (chO W l c o n A ov).e = 0 → (chO W l c o n A ov).A.length = A.length ∧ ∀ x ∈ (chO W l c o n A ov).A, AOk x
  | 0, o, A, ov, hA, _, _ => ⟨rfl, hA⟩
  | n + 1, o, A, ov, hA, hl, he => by
    unfold chO at he ⊢
    by_cases h0 : cnt W l o = 0
    · rw [if_pos h0] at he ⊢
      exact chO_ok hc hn n (o + 1) A ov hA (by omega) he
    · rw [if_neg h0] at he ⊢
      by_cases h1 : shrE c (cnt W l o) l.length ≠ 0
      · rw [if_pos h1] at he; exact absurd he h1
      · rw [if_neg h1] at he ⊢
        by_cases hz : acE (A.getD o accZ) (shr c (cnt W l o) l.length) ≠ 0
        · rw [if_pos hz] at he; exact absurd he hz
        · rw [if_neg hz] at he ⊢
          have hz : acE (A.getD o accZ) (shr c (cnt W l o) l.length) = 0 := Decidable.byContradiction hz
          have hsc := shr_cost hc (by omega) (cnt_le W l o) hn (Decidable.byContradiction h1)
          have ih := chO_ok hc hn n (o + 1) _ _ (set_ok (i := o) hA (acV_ok (get_ok hA (by omega)) hsc hz)) (by rw [List.length_set]; omega) he
          rw [List.length_set] at ih
          exact ih
theorem ask_zero {b : Bk} {l : List Int} {c : Rq} (h : askE b l c = 0) : l ≠ [] ∧ isCost c = true ∧ knE b l = 0 ∧ (askP b l c).e = 0 ∧ (askO b l c).e = 0 ∧ (askO b l c).ov = false := by
  unfold askE at h
  split at h
  · cases h
  rename_i h1
  split at h
  · rename_i h2; exact absurd h h2
  rename_i h2
  split at h
  · rename_i h3; exact absurd h h3
  rename_i h3
  split at h
  · rename_i h4; exact absurd h h4
  rename_i h4
  split at h
  · cases h
  rename_i h5
  refine ⟨fun e => h1 (.inl e), ?_, Decidable.byContradiction h2, Decidable.byContradiction h3, Decidable.byContradiction h4, by simpa using h5⟩
  cases hc : isCost c with
  | true => rfl
  | false => exact absurd (.inr hc) h1
theorem kn_range {b : Bk} {l : List Int} (h : knE b l = 0) : ∀ p ∈ l, 0 ≤ p ∧ p < b.A.length := fun p hp => by
  obtain ⟨j, hj, e⟩ := (mem_getD (d := 0)).1 hp
  have := kn_zero (knL_all (show knL b l 0 l.length = 0 from h) j (by omega) (by omega))
  rw [e] at this
  exact this
theorem ask_bok {b : Bk} (hb : BOk b) {l : List Int} (hl : l.length ≤ 256) {c : Rq} : BOk (askB b l c) := by
  unfold askB
  by_cases h : askE b l c = 0
  · rw [if_pos h]
    obtain ⟨_, hc, hk, hp, ho, _⟩ := ask_zero h
    obtain ⟨p1, p2⟩ := chg_ok hc l b.A false hb.a (kn_range hk) hp
    obtain ⟨o1, o2⟩ := chO_ok (W := b.W) hc hl b.O.length 0 b.O (askP b l c).ov hb.o (by omega) ho
    exact ⟨by rw [show (askP b l c).A.length = b.A.length from p1]; exact hb.na, by rw [show (askO b l c).A.length = b.O.length from o1]; exact hb.no, p2, o2, ⟨by rw [show (askP b l c).A.length = b.A.length from p1]; exact hb.w.1, fun x hx => by rw [show (askO b l c).A.length = b.O.length from o1]; exact hb.w.2 x hx⟩, by rw [show (askP b l c).A.length = b.A.length from p1]; exact hb.r⟩
  · rw [if_neg h]; exact hb
end Go.Bg

namespace Go.Bg
open Go.Rt Go.Lx
end Go.Bg
namespace Go.Proofs.YtdbebdjnpckfdaaDoor
open Go.V Go.RowKit Go.L Go.Lx Go.Rt Go.Bg
set_option maxRecDepth 10000
set_option maxHeartbeats 4000000
end Go.Proofs.YtdbebdjnpckfdaaDoor

namespace Go.Proofs.YtdbebdjnpckfdaaDoor
open Go.V Go.RowKit Go.L Go.Lx Go.Rt Go.Bg
set_option maxRecDepth 10000
set_option maxHeartbeats 4000000
theorem keys_lt {h : Asc} {N : Nat} (hb : (keys h).all (fun k => Nat.blt k N) = true) : ∀ i av, get? h i = some av → i < N := fun i av hi => by
  have := List.all_eq_true.1 hb i (get?_keys hi)
  simpa [Nat.blt_eq] using this
/-- A book after an error bears the names that one after an ask bears. -/
theorem err_ren {f : FuncId} {args : AV} {e : Int} (b : Bk) (k : Ok Tryd.prog f [] (bH b) args (fun v h' => v = .int .i64 e ∧ h' = bH b)) : Ok Tryd.prog f [] (bH b) args (fun v h' => v = .int .i64 e ∧ h' = nbH b) :=
  Ok.ren 5 11 [(7, 1), (8, 2), (9, 3), (10, 4)] k (keys_lt (by rfl)) (by rfl) R_ R_
theorem ask_all (b : Bk) (hb : BOk b) (l : List Int) (hl : l.length ≤ 256) (c : Rq) (hr : R64 c) : Ok Tryd.prog 29 [] (bH b) (.pair (.ptr 0 []) (.pair (liV l) (.pair (ratA c) .nul))) (fun v h' => v = .int .i64 (askE b l c) ∧ h' = nbH (askB b l c)) := by
  by_cases h : askE b l c = 0
  · have := ask_fine b hb l hl c hr h
    rw [h]; exact this
  · have := err_ren b (ask_err b hb l hl c hr _ rfl h)
    rw [show askB b l c = b from if_neg h]; exact this
end Go.Proofs.YtdbebdjnpckfdaaDoor

namespace Go.Proofs.YtdbebdjnpckfdaaDoor
open Go.V Go.RowKit Go.U Go.L Go.Lx Go.Dw Go.Rl Go.Rt Go.Bg
set_option maxRecDepth 10000
set_option maxHeartbeats 4000000
abbrev relV (n f k : Int) (C : List Int) : AV := .pair (.int .i64 n) (.pair (.int .i64 f) (.pair (.int .i64 k) (.pair (liV C) .nul)))
abbrev relZ : AV := .pair (.int .i64 0) (.pair (.int .i64 0) (.pair (.int .i64 0) (.pair nilS .nul)))
/-- The counts of a release. -/
def cntsV (seed : List UInt8) (n f k : Int) (S : List Int) (R : List Row) : List Int := (List.range (S.getD f.toNat 0).toNat).map fun v : Nat => noiV (most k) k (min (most k) (mGet (manyTo R f.toNat R.length) v)) (drw seed [11, n, f, (v : Int)] 0)
theorem cntsV_len (seed : List UInt8) (n f k : Int) (S : List Int) (R : List Row) : (cntsV seed n f k S R).length = (S.getD f.toNat 0).toNat := by unfold cntsV; rw [List.length_map, List.length_range]
theorem cntsV_get (seed : List UInt8) (n f k : Int) (S : List Int) (R : List Row) {v : Nat} (h : v < (S.getD f.toNat 0).toNat) : (cntsV seed n f k S R).getD v 0 = noiV (most k) k (min (most k) (mGet (manyTo R f.toNat R.length) v)) (drw seed [11, n, f, (v : Int)] 0) := by
  unfold cntsV
  rw [List.getD_eq_getElem?_getD, List.getElem?_map, List.getElem?_range h]; rfl
theorem cost_r {k : Int} (h : 0 ≤ k ∧ k ≤ 1000) : R64 ⟨k, 1⟩ := ⟨⟨by show _ ≤ k; omega, by show k ≤ _; omega⟩, by show (_ : Int) ≤ 1; decide, by show (1 : Int) ≤ _; decide⟩
theorem rask_err (b : Bk) (hb : BOk b) (S : List Int) (R : List Row) (seed : List UInt8) (hs : seed.length ≤ 32) (n f k : Int) (hn : 0 ≤ n ∧ n ≤ 1048576) (hk : checkE ⟨S, R⟩ f k = 0) (E : Int) (hE : askE b (pers ⟨S, R⟩) ⟨k, 1⟩ = E) (h0 : E ≠ 0) : Ok Tryd.prog 12 gK (bH b) (.pair (tabV S R) (.pair (.ptr 0 []) (.pair (.str seed) (.pair (.int .i64 n) (.pair (.int .i64 f) (.pair (.int .i64 k) .nul)))))) (fun r h' => r = .tup (.pair relZ (.pair (.int .i64 E) .nul)) ∧ h' = nbH b) := by
  obtain ⟨hok, hf, hk12⟩ := checkE_zero.1 hk
  obtain ⟨z1, z2, z3, z4, z5⟩ := okE_zero.1 hok
  have z1 : S.length ≤ 8 := z1
  have z2 : R.length ≤ 64 := z2
  have hV : ∀ i, (R.getD i rowZ).V.length ≤ 8 := fun i => by
    rcases Nat.lt_or_ge i R.length with hi | hi
    · have : (R.getD i rowZ).V.length = S.length := (badR_false.1 (z4 i hi)).1.2.2
      omega
    · rw [List.getD_eq_getElem?_getD, List.getElem?_eq_none hi]; exact Nat.zero_le _
  have c1 := rcheck_ok S R f k (by omega) (by omega) (fun i => by have := hV i; omega)
  rw [hk] at c1
  have c2 := persons_ok S R (by omega) (by omega) (fun i => by have := hV i; omega)
  have hpl : (pers ⟨S, R⟩).length ≤ 64 := by
    unfold pers
    rw [if_pos hok]
    rw [srt_len, ps_len]; exact z2
  generalize pers ⟨S, R⟩ = P at *
  have c3 := ask_all b hb P (by omega) ⟨k, 1⟩ (cost_r ⟨by omega, by omega⟩)
  rw [hE, show askB b P ⟨k, 1⟩ = b from if_neg (by rw [hE]; exact h0)] at c3
  clear z3 z4 hV
  refine Ok.of_vcC tt_ok Tryd.func12 rfl rfl (by show 6 ≤ _; decide) 5 (hlt_ok (by rfl)) fun c0 => ?_
  repeat' (first | (refine SS_ ?_) | (refine Seq.callo false [] [] (.int .i64 E) (nbH b) 11 (c3) Tryd.func29 gK_ok subG.nil (by rfl) (by rfl) rfl rfl rfl rfl rfl (by rfl) rfl (by rfl) (by rfl) (by rfl) (by rfl) VW_ NI_ R_ (noFrL_ok NI_) BK_ ?_) | (refine Seq.lit (by rfl) (by rfl) LT2_ ?_) | (refine Seq.callq false (c1) Tryd.func28 GG_ SG_ (by rfl) rfl rfl rfl (by rfl) rfl VW_ NI_ NI_ FR_ ?_) | (refine Seq.callq false (c2) Tryd.func30 GG_ SG_ (by rfl) rfl rfl rfl (by rfl) rfl VW_ NI_ NI_ FR_ ?_) | (refine VC.litT (by rfl) LTR_ ?_) | (refine VC.litF (by rfl) LFA_ ?_) | fail)
  exact retC_mk [(12, .ptr 6 []), (13, .int .i64 E)] ((6, relZ) :: nbH b) 11 (Sim.less [] (by rfl) R_ R_) (retQ_ok (by rfl) (nbH b) (subL_ok ⟨rfl, rfl, rfl, rfl, rfl, trivial⟩) ⟨rfl, rfl⟩)
theorem path_I {n f v : Int} (hn : I64 n) (hf : I64 f) (hv : I64 v) (i : Nat) : I64 (([11, n, f, v] : List Int).getD i 0) := by
  rcases (by omega : i = 0 ∨ i = 1 ∨ i = 2 ∨ i = 3 ∨ 4 ≤ i) with rfl | rfl | rfl | rfl | h
  · exact ⟨by show (_ : Int) ≤ 11; decide, by show (11 : Int) ≤ _; decide⟩
  · exact hn
  · exact hf
  · exact hv
  · rw [List.getD_eq_getElem?_getD, List.getElem?_eq_none (by simpa using h)]; exact ⟨by decide, by decide⟩
theorem rask_fine (b : Bk) (hb : BOk b) (S : List Int) (R : List Row) (seed : List UInt8) (hs : seed.length ≤ 32) (n f k : Int) (hn : 0 ≤ n ∧ n ≤ 1048576) (hk : checkE ⟨S, R⟩ f k = 0) (hE : askE b (pers ⟨S, R⟩) ⟨k, 1⟩ = 0) (hlow : ∀ v : Nat, (v : Int) < S.getD f.toNat 0 → drw seed [11, n, f, (v : Int)] 0 < 280925220896768) : Ok Tryd.prog 12 gK (bH b) (.pair (tabV S R) (.pair (.ptr 0 []) (.pair (.str seed) (.pair (.int .i64 n) (.pair (.int .i64 f) (.pair (.int .i64 k) .nul)))))) (fun r h' => r = .tup (.pair (relV n f k (cntsV seed n f k S R)) (.pair (.int .i64 0) .nul)) ∧ h' = nbH (askB b (pers ⟨S, R⟩) ⟨k, 1⟩)) := by
  obtain ⟨hok, hf, hk12⟩ := checkE_zero.1 hk
  have hf : 0 ≤ f ∧ f < S.length := hf
  obtain ⟨z1, z2, z3, z4, z5⟩ := okE_zero.1 hok
  have z1 : S.length ≤ 8 := z1
  have z2 : R.length ≤ 64 := z2
  have hVl := fun i (hi : i < R.length) => (badR_false.1 (z4 i hi)).1.2.2
  have hV : ∀ i, (R.getD i rowZ).V.length ≤ 8 := fun i => by
    rcases Nat.lt_or_ge i R.length with hi | hi
    · have : (R.getD i rowZ).V.length = S.length := hVl i hi
      omega
    · rw [List.getD_eq_getElem?_getD, List.getElem?_eq_none hi]; exact Nat.zero_le _
  have c1 := rcheck_ok S R f k (by omega) (by omega) (fun i => by have := hV i; omega)
  rw [hk] at c1
  have c2 := persons_ok S R (by omega) (by omega) (fun i => by have := hV i; omega)
  have hpl : (pers ⟨S, R⟩).length ≤ 64 := by
    unfold pers
    rw [if_pos hok]
    rw [srt_len, ps_len]; exact z2
  have hcl := cntsV_len seed n f k S R
  have hcg := fun v h => cntsV_get seed n f k S R (v := v) h
  generalize cntsV seed n f k S R = C at *
  generalize pers ⟨S, R⟩ = P at *
  have c3 := ask_all b hb P (by omega) ⟨k, 1⟩ (cost_r ⟨by omega, by omega⟩)
  rw [hE] at c3
  have c4 := counts_ok S R f k z2 hVl hf hk12
  obtain ⟨hfit, hm2⟩ := most_fits hk12
  have hm3 := hfit.fm
  have hSf : 1 ≤ S.getD f.toNat 0 ∧ S.getD f.toNat 0 ≤ 12 := by
    have := (any_false (d := 0)).1 z3 f.toNat (by omega)
    have := of_decide_eq_false this
    have h9 : ¬ (S.getD f.toNat 0 < 1 ∨ 12 < S.getD f.toNat 0) := this
    omega
  have hmc : ∀ v : Int, 0 ≤ mGet (manyTo R f.toNat R.length) v := fun v => by rw [many_get]; exact Int.natCast_nonneg _
  generalize manyTo R f.toNat R.length = M at *
  have c5 := fun v => counts1_ok (most k) v M
  have c6 := fun (v : Nat) hv c hc => noise_ok seed hs [11, n, f, (v : Int)] (by simp) (path_I ⟨by omega, by omega⟩ ⟨by omega, by omega⟩ ⟨by omega, by omega⟩) (hlow v hv) c (most k) k hfit hc
  clear z3 z4 hV hVl hlow
  generalize askB b P ⟨k, 1⟩ = b2 at *
  generalize hZ : S.getD f.toNat 0 = Z at *
  refine Ok.of_vcC tt_ok Tryd.func12 rfl rfl (by show 6 ≤ _; decide) 5 (hlt_ok (by rfl)) fun c0 => ?_
  repeat' (first | (refine SS_ ?_) | (refine Seq.callo false [] [] (.int .i64 0) (nbH b2) 11 (c3) Tryd.func29 gK_ok subG.nil (by rfl) (by rfl) rfl rfl rfl rfl rfl (by rfl) rfl (by rfl) (by rfl) (by rfl) (by rfl) VW_ NI_ R_ (noFrL_ok NI_) BK_ ?_) | (refine Seq.callo false [] [(12, 0), (13, 1), (14, 2)] (.tup (.pair (.int .i64 (most k)) (.pair (cntF 12 13) .nul))) ([(12, .int .i64 (most k)), (13, .mp 14), (14, cntA M)]) 15 (c4) Tryd.func31 gK_ok subG.nil (by rfl) (by rfl) rfl rfl rfl rfl rfl (by rfl) rfl (by rfl) (by rfl) (by rfl) (by rfl) VW_ NI_ R_ (noFrL_ok NI_) BK_ ?_) | (refine Seq.lit (by rfl) (by rfl) LT2_ ?_) | (refine Seq.callq false (c1) Tryd.func28 GG_ SG_ (by rfl) rfl rfl rfl (by rfl) rfl VW_ NI_ NI_ FR_ ?_) | (refine Seq.callq false (c2) Tryd.func30 GG_ SG_ (by rfl) rfl rfl rfl (by rfl) rfl VW_ NI_ NI_ FR_ ?_) | (refine VC.litF (by rfl) LFA_ ?_) | fail)
  refine VC.conv (s' := ⟨[(68, .int .i64 0), (67, .int .i64 Z), (18, cntF 12 13), (17, .int .i64 (most k)), (16, .ptr 11 []), (12, .ptr 6 []), (2, .str seed), (3, .int .i64 n), (4, .int .i64 f), (5, .int .i64 k)], (12, .int .i64 (most k)) :: (13, .mp 14) :: (14, cntA M) :: (11, .pair (.int .i64 n) (.pair (.int .i64 f) (.pair (.int .i64 k) (.pair nilS .nul)))) :: (6, relZ) :: nbH b2, gK, 15⟩) (Sim.less [] (by rfl) R_ R_) ?_
  refine VC.conv (Sim.ghostF 11 3 1 (fun i => .int .i64 (([] : List Int).getD i 0)) (by rfl) (by rfl) (by rfl)) ?_
  refine VC.loop (fun v : Nat => ⟨[(68, .int .i64 (v : Nat)), (67, .int .i64 Z), (18, cntF 12 13), (17, .int .i64 (most k)), (16, .ptr 11 []), (12, .ptr 6 []), (2, .str seed), (3, .int .i64 n), (4, .int .i64 f), (5, .int .i64 k)], (15, liO (C.take v)) :: (12, .int .i64 (most k)) :: (13, .mp 14) :: (14, cntA M) :: (11, .pair (.int .i64 n) (.pair (.int .i64 f) (.pair (.int .i64 k) (.pair (.sl 15 [] 1 0 (C.take v).length) .nul)))) :: (6, relZ) :: nbH b2, gK, 16⟩) (fun v => (v : Int) ≤ Z) (fun v => Z.toNat - v) 0 (by omega) (by
    (refine Sim.less [] (by rfl) ?_ ?_ <;> (repeat' (first | (exact EnvLe.nil) | (exact HeapLe.nil) | (with_reducible apply EnvLe.cons) | (with_reducible apply HeapLe.cons) | ((with_reducible refine RelA.int ?_; first | (refine Keep.mk ?_; first | with_reducible rfl | omega | decide) | skip)) | (exact rfl) | (exact ⟨rfl, rfl⟩) | ((with_reducible refine RelA.arr ?_; intro i hi)) | (with_reducible refine RelA.pair ?_ ?_) | ((refine RelA.arr ?_; intro i hi)) | (refine RelA.fn ?_ ?_) | (exact NoId.self (by first | ((repeat' (first | exact trivial | exact rfl | refine NoFr.bif ?_ ?_ | refine NoId.bif ?_ ?_ | refine AllFr.bif ?_ ?_ | (intro i hi) | (refine ⟨?_, ?_⟩) | (intro e; cases e; done))); done) | fail)) | fail)) <;> (try with_reducible refine Keep.mk ?_))
    all_goals rfl) fun v hv => ?_
  by_cases hvl : (v : Int) < Z
  · have hTl : (C.take v).length = v := by rw [List.length_take]; omega
    have hts : C.take (v + 1) = C.take v ++ [C.getD v 0] := take_snoc (by omega)
    have hmc := hmc v
    have c5 := c5 v
    have c6 := c6 v hvl (min (most k) (mGet M v)) (by omega)
    rw [← hcg v (by omega)] at c6
    generalize hT : C.take (v + 1) = T2 at *
    generalize C.take v = T at *
    generalize C.getD v 0 = X at *
    repeat' (first | (refine SS_ ?_) | (refine Seq.callo false [(0, 12), (1, 13), (2, 14)] [(12, 0), (13, 1), (14, 2)] (.int .i64 (min (most k) (mGet M v))) ([(12, .int .i64 (most k)), (13, .mp 14), (14, cntA M)]) 17 (c5) Tryd.func50 gK_ok subG.nil (by rfl) (by rfl) rfl rfl rfl rfl rfl (by rfl) rfl (by rfl) (by rfl) (by rfl) (by rfl) VW_ NI_ R_ (noFrL_ok NI_) BK_ ?_) | (refine Seq.callq true (c6) Tryd.func32 GG_ SG_ (by rfl) rfl rfl rfl (by rfl) rfl VW_ NI_ NI_ FR_ ?_) | (refine VC.litT (by rfl) LTR_ ?_) | fail)
    refine ⟨v + 1, by omega, by omega, ?_⟩
    rw [hT, hts]
    show ∀ a_1 w, _ → Sim _ ⟨[(68, .int .i64 ((v + 1 : Nat) : Int)), (67, .int .i64 Z), (18, cntF 12 13), (17, .int .i64 (most k)), (16, .ptr 11 []), (12, .ptr 6 []), (2, .str seed), (3, .int .i64 n), (4, .int .i64 f), (5, .int .i64 k)], (15, .arr (T ++ [X]).length 1 (fun i => .int .i64 ((T ++ [X]).getD i 0))) :: (12, .int .i64 (most k)) :: (13, .mp 14) :: (14, cntA M) :: (11, .pair (.int .i64 n) (.pair (.int .i64 f) (.pair (.int .i64 k) (.pair (.sl 15 [] 1 0 (T ++ [X]).length) .nul)))) :: (6, relZ) :: nbH b2, gK, 16⟩ a_1 w
    rw [List.length_append, List.length_singleton]
    (refine Sim.less [(15, 18)] (by rfl) ?_ ?_ <;> (repeat' (first | (exact EnvLe.nil) | (exact HeapLe.nil) | (with_reducible apply EnvLe.cons) | (with_reducible apply HeapLe.cons) | ((with_reducible refine RelA.int ?_; first | (refine Keep.mk ?_; first | with_reducible rfl | omega | decide) | skip)) | (exact rfl) | (exact ⟨rfl, rfl⟩) | ((with_reducible refine RelA.arr ?_; intro i hi)) | (with_reducible refine RelA.pair ?_ ?_) | ((refine RelA.arr ?_; intro i hi)) | (refine RelA.fn ?_ ?_) | (exact NoId.self (by first | ((repeat' (first | exact trivial | exact rfl | refine NoFr.bif ?_ ?_ | refine NoId.bif ?_ ?_ | refine AllFr.bif ?_ ?_ | (intro i hi) | (refine ⟨?_, ?_⟩) | (intro e; cases e; done))); done) | fail)) | fail)) <;> (try with_reducible refine Keep.mk ?_))
    exact rel_snocG (G := AV.int .i64) (fun e => NI_) hi
  · obtain rfl : v = Z.toNat := by omega
    rw [← hcl, List.take_length]
    repeat' (first | (refine SS_ ?_) | (refine VC.litF (by rfl) LFA_ ?_) | fail)
    refine retC_conv' (s' := ⟨[(12, .ptr 6 []), (13, .int .i64 0)], (15, liO C) :: (6, .pair (.int .i64 n) (.pair (.int .i64 f) (.pair (.int .i64 k) (.pair (.sl 15 [] 1 0 C.length) .nul)))) :: nbH b2, gK, 16⟩) (Sim.less [] (by rfl) R_ R_) ?_
    refine retC_conv' (Sim.stillN (e' := [(12, .ptr 6 []), (13, .int .i64 0)]) (h' := (6, relV n f k C) :: nbH b2) [15] (by rfl) (HeapN.cons (by rfl) (.pair (.rel R_) (.pair (.rel R_) (.pair (.rel R_) (.pair (viewN_li' (by rfl) rfl rfl) (.rel R_))))) (by rfl) (by repeat' (first | exact HeapN.nil | refine HeapN.cons (by rfl) (.rel R_) (by rfl) ?_))) (by repeat' (first | exact EnvN.nil | refine EnvN.cons (by rfl) (.rel R_) ?_))) ?_
    exact retC_mk [(12, .ptr 6 []), (13, .int .i64 0)] ((6, relV n f k C) :: nbH b2) 16 (Sim.less [] (by rfl) R_ R_) (retQ_ok (by rfl) (nbH b2) (subL_ok ⟨rfl, rfl, rfl, rfl, rfl, trivial⟩) ⟨rfl, rfl⟩)
end Go.Proofs.YtdbebdjnpckfdaaDoor
