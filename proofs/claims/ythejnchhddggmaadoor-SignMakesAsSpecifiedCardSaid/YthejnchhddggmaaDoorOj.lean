
/- SignMakesAsSpecified. -/
import Derived.Test.YthejnchhddggmaaDoorNy
import Derived.Test.YthejnchhddggmaaDoorOh
set_option linter.unusedSimpArgs false
set_option linter.unusedVariables false
namespace Go.Proofs.YthejnchhddggmaaDoor
open Go.V Go.RowKit Go.U Go.L Go.Lx Go.Sg
set_option maxRecDepth 10000
set_option maxHeartbeats 4000000
/-- What Sign answers. -/
def sgE (seed : List UInt8) (h i : Int) (m : List UInt8) : List UInt8 × Int :=
  if ¬ (seed.length = 32 ∧ 0 ≤ h ∧ h ≤ 6) then ([], 1)
  else if i < 0 ∨ ((2 ^ h.toNat : Nat) : Int) ≤ i then ([], 22)
  else if 1048576 < m.length then ([], 4)
  else (sigB seed h.toNat i.toNat m, 0)
def sgT (r : List UInt8 × Int) : AV := .tup (.pair (.str r.1) (.pair (.int .i64 r.2) .nul))
theorem sign_ok (seed : List UInt8) (h i : Int) (msg : List UInt8) (hs : seed.length ≤ 1000000) (hm : msg.length ≤ 1000000000) : Ok Tryd.prog 14 gK [] (.pair (.str seed) (.pair (.int .i64 h) (.pair (.int .i64 i) (.pair (.str msg) .nul)))) (fun r h' => r = sgT (sgE seed h i msg) ∧ h' = []) := by
  unfold sgE
  by_cases hh : seed.length = 32 ∧ 0 ≤ h ∧ h ≤ 6
  · rw [if_neg (fun e => e hh)]
    by_cases hi : i < 0 ∨ ((2 ^ h.toNat : Nat) : Int) ≤ i
    · rw [if_pos hi]
      exact sign_no seed h i msg (by omega) hm 22 (.inr (.inl ⟨hh, hi, rfl⟩))
    · rw [if_neg hi]
      by_cases hml : 1048576 < msg.length
      · rw [if_pos hml]
        exact sign_no seed h i msg (by omega) hm 4 (.inr (.inr ⟨hh, hi, hml, rfl⟩))
      · rw [if_neg hml]
        obtain ⟨n, rfl⟩ : ∃ n : Nat, h = n := ⟨h.toNat, by omega⟩
        obtain ⟨k, rfl⟩ : ∃ k : Nat, i = k := ⟨i.toNat, by omega⟩
        rw [Int.toNat_natCast] at *
        exact sign_yes seed hh.1 n k (by omega) (by omega) msg (by omega)
  · rw [if_pos hh]
    exact sign_no seed h i msg (by omega) hm 1 (.inl ⟨hh, rfl⟩)
theorem rsign_ok (seed : List UInt8) (h i : Int) (msg : List UInt8) (hs : seed.length ≤ 1000000) (hm : msg.length ≤ 1000000000) : Ok Tryd.prog 15 gR [] (.pair (.str seed) (.pair (.int .i64 h) (.pair (.int .i64 i) (.pair (.str msg) .nul)))) (fun r h' => r = sgT (sgE seed h i msg) ∧ h' = []) := by
  unfold sgE
  by_cases hh : seed.length = 32 ∧ 0 ≤ h ∧ h ≤ 6
  · rw [if_neg (fun e => e hh)]
    by_cases hi : i < 0 ∨ ((2 ^ h.toNat : Nat) : Int) ≤ i
    · rw [if_pos hi]
      exact rsign_no seed h i msg (by omega) hm 22 (.inr (.inl ⟨hh, hi, rfl⟩))
    · rw [if_neg hi]
      by_cases hml : 1048576 < msg.length
      · rw [if_pos hml]
        exact rsign_no seed h i msg (by omega) hm 4 (.inr (.inr ⟨hh, hi, hml, rfl⟩))
      · rw [if_neg hml]
        obtain ⟨n, rfl⟩ : ∃ n : Nat, h = n := ⟨h.toNat, by omega⟩
        obtain ⟨k, rfl⟩ : ∃ k : Nat, i = k := ⟨i.toNat, by omega⟩
        rw [Int.toNat_natCast] at *
        exact rsign_yes seed hh.1 n k (by omega) (by omega) msg (by omega)
  · rw [if_pos hh]
    exact rsign_no seed h i msg (by omega) hm 1 (.inl ⟨hh, rfl⟩)
/-- What Public answers. -/
def pbE (seed : List UInt8) (h : Int) : List UInt8 × Int := if seed.length = 32 ∧ 0 ≤ h ∧ h ≤ 6 then (ndD seed h.toNat 0, 0) else (List.replicate 16 0, 1)
def pbT (r : List UInt8 × Int) : AV := .tup (.pair (digA r.1) (.pair (.int .i64 r.2) .nul))
theorem pbE_length (seed : List UInt8) (h : Int) : (pbE seed h).1.length = 16 := by
  unfold pbE
  split
  · exact ndD_length _ _ _
  · exact List.length_replicate ..
theorem pbT_eq (seed : List UInt8) (h : Int) : (if seed.length = 32 ∧ 0 ≤ h ∧ h ≤ 6 then AV.tup (.pair (digA (ndD seed h.toNat 0)) (.pair (.int .i64 0) .nul)) else .tup (.pair (.arr 16 1 (fun _ => .int .u8 0)) (.pair (.int .i64 1) .nul))) = pbT (pbE seed h) := by
  unfold pbE pbT
  split
  · rfl
  · rw [zA_eq]
theorem wf_get {x : List Int} (hl : x.length = 2) (hq : ∀ y ∈ x, (Lit.int .i64 y).wf = true) : I64 (x.getD 1 0) := by
  refine bounds_i64 (hq _ ?_)
  rw [List.getD_eq_getElem?_getD, List.getElem?_eq_getElem (by omega)]
  exact List.getElem_mem _
theorem lawMakes_ok (s : List UInt8) (n : List Int) (msg : List UInt8) (hn : I64 (n.getD 1 0)) : Ok Tryd.prog 4 gA [] (.pair (.str s) (.pair (.arr 2 1 (fun j => .int .i64 (n.getD j 0))) (.pair (.str msg) .nul))) (fun r h' => r = .bool true ∧ h' = []) := by
  have csan := sanity_ok
  have g0 : n.getD (Int.toNat 0) 0 = n.getD 0 0 := rfl
  have g1 : n.getD (Int.toNat 1) 0 = n.getD 1 0 := rfl
  by_cases hs : 200 < s.length
  · refine Ok.of_vcC tt_ok Tryd.func4 rfl rfl (by show 3 ≤ _; decide) 0 (hlt_ok (by rfl)) fun c0 => ?_
    repeat' (first | (refine SS_ ?_) | (refine Seq.lit (by rfl) (by rfl) LT2_ ?_) | (refine Seq.callq false (csan) Tryd.func9 GG_ SG_ (by rfl) rfl rfl rfl (by rfl) rfl VW_ NI_ NI_ FR_ ?_) | (refine VC.litT (by rfl) LTR_ ?_) | fail)
    (refine retC_mk ([(6, .bool true)]) ([]) 0 (Sim.less [] (by rfl) R_ R_) (retQ_ok (by rfl) ([]) (fun i av h => h) ⟨?_, ?_⟩)) <;> rfl
  by_cases hm : 200 < msg.length
  · refine Ok.of_vcC tt_ok Tryd.func4 rfl rfl (by show 3 ≤ _; decide) 0 (hlt_ok (by rfl)) fun c0 => ?_
    repeat' (first | (refine SS_ ?_) | (refine Seq.lit (by rfl) (by rfl) LT2_ ?_) | (refine Seq.callq false (csan) Tryd.func9 GG_ SG_ (by rfl) rfl rfl rfl (by rfl) rfl VW_ NI_ NI_ FR_ ?_) | (refine VC.litT (by rfl) LTR_ ?_) | fail)
    (refine retC_mk ([(6, .bool true)]) ([]) 0 (Sim.less [] (by rfl) R_ R_) (retQ_ok (by rfl) ([]) (fun i av h => h) ⟨?_, ?_⟩)) <;> rfl
  have c1 := public_ok s (n.getD 0 0) (by omega)
  have c2 := rpublic_ok s (n.getD 0 0) (by omega)
  rw [pbT_eq] at c1 c2
  have c3 := sign_ok s (n.getD 0 0) (n.getD 1 0) msg (by omega) (by omega)
  have c4 := rsign_ok s (n.getD 0 0) (n.getD 1 0) msg (by omega) (by omega)
  have hp := pbE_length s (n.getD 0 0)
  have c5 := sDigest_ok (pbE s (n.getD 0 0)).1 hp (n.getD 1 0) hn msg (by omega)
  have c6 := rDigest_ok (pbE s (n.getD 0 0)).1 hp (n.getD 1 0) hn msg (by omega)
  generalize msgD (pbE s (n.getD 0 0)).1 (n.getD 1 0) msg = D at *
  generalize pbE s (n.getD 0 0) = pe at *
  generalize sgE s (n.getD 0 0) (n.getD 1 0) msg = se at *
  obtain ⟨P, e⟩ := pe
  obtain ⟨S, f⟩ := se
  rw [show pbT (P, e) = .tup (.pair (digA P) (.pair (.int .i64 e) .nul)) from rfl] at c1 c2
  rw [show sgT (S, f) = .tup (.pair (.str S) (.pair (.int .i64 f) .nul)) from rfl] at c3 c4
  by_cases h2 : 2 < n.getD 0 0
  · by_cases h6 : n.getD 0 0 ≤ 6
    · refine Ok.of_vcC tt_ok Tryd.func4 rfl rfl (by show 3 ≤ _; decide) 0 (hlt_ok (by rfl)) fun c0 => ?_
      repeat' (first | (refine SS_ ?_) | (refine Seq.lit (by rfl) (by rfl) LT2_ ?_) | (refine Seq.callq false (csan) Tryd.func9 GG_ SG_ (by rfl) rfl rfl rfl (by rfl) rfl VW_ NI_ NI_ FR_ ?_) | (refine VC.litT (by rfl) LTR_ ?_) | fail)
      (refine retC_mk ([(6, .bool true)]) ([]) 0 (Sim.less [] (by rfl) R_ R_) (retQ_ok (by rfl) ([]) (fun i av h => h) ⟨?_, ?_⟩)) <;> rfl
    · refine Ok.of_vcC tt_ok Tryd.func4 rfl rfl (by show 3 ≤ _; decide) 0 (hlt_ok (by rfl)) fun c0 => ?_
      repeat' (first | (refine SS_ ?_) | (refine VC.drawm (id := 8) [(0, 0), (1, 1), (2, 3), (3, 3), (4, 15), (5, 31), (6, 63), (7, 127), (8, 127), (9, 511), (10, 1023), (11, 2047), (12, 4095), (13, 4095), (14, 16383), (15, 32767), (16, 65535), (17, 131071), (18, 131071), (19, 524287), (20, 1048575), (21, 2097151), (22, 4194303), (23, 4194303), (24, 12582911), (25, 4194303), (26, 67108863), (27, 4194303), (28, 4194303), (29, 272629759), (30, 4194303), (31, 2147483647), (32, 4294967295), (33, 8589934591)] [34] (by rfl) (by kernel_rfl) (by rfl) ?_) | (refine DSeq.eqarr (true) tt_ok (by rfl) (fastE (by rfl)) (fastH (by rfl)) (by rfl) (by rfl) (by rfl) (by kernel_rfl) (by rfl) (by rfl) (by rfl) ⟨fun _ i hi => rfl, fun _ => rfl⟩ (by rfl) ?_) | (refine Seq.lit (by rfl) (by rfl) LT2_ ?_) | (refine Seq.callq false (csan) Tryd.func9 GG_ SG_ (by rfl) rfl rfl rfl (by rfl) rfl VW_ NI_ NI_ FR_ ?_) | (refine Seq.callq false (c1) Tryd.func12 GG_ SG_ (by rfl) rfl rfl rfl (by rfl) rfl VW_ NI_ NI_ FR_ ?_) | (refine Seq.callq false (c2) Tryd.func13 GG_ SG_ (by rfl) rfl rfl rfl (by rfl) rfl VW_ NI_ NI_ FR_ ?_) | (refine Seq.callq false (c3) Tryd.func14 GG_ SG_ (by rfl) rfl rfl rfl (by rfl) rfl VW_ NI_ NI_ FR_ ?_) | (refine Seq.callq false (c4) Tryd.func15 GG_ SG_ (by rfl) rfl rfl rfl (by rfl) rfl VW_ NI_ NI_ FR_ ?_) | (refine VC.litF (by rfl) LFA_ ?_) | (refine DD_ ?_) | (refine DSeq.lit2 (by rfl) (by rfl) (by rfl) LT2_ (by rfl) ?_) | (refine DSeq.callq false (c5) Tryd.func16 GG_ SG_ (by rfl) (fastE (by rfl)) (fastH (by rfl)) (by rfl) rfl rfl rfl (by rfl) (by rfl) VW_ NI_ NI_ FR_ ?_) | (refine DSeq.callq false (c6) Tryd.func17 GG_ SG_ (by rfl) (fastE (by rfl)) (fastH (by rfl)) (by rfl) rfl rfl rfl (by rfl) (by rfl) VW_ NI_ NI_ FR_ ?_) | (refine DSeq.litC2 (by rfl) (by rfl) (by rfl) (by rfl) (by rfl) (fun hb => ?_) (fun hb => ?_) <;> (fail_if_success (with_reducible have := litT_ hb)) <;> (fail_if_success (with_reducible have := litF_ hb)) <;> (try simp only [HB_] at hb) <;> (try (exfalso; first | omega | (cases hb; done)))) | fail)
      · (refine retC_mk ([(6, .bool true)]) ([]) 0 (Sim.less [] (by rfl) R_ R_) (retQ_ok (by rfl) ([]) (fun i av h => h) ⟨?_, ?_⟩)) <;> rfl
      · exact absurd trivial (by assumption : ¬ True)
  · refine Ok.of_vcC tt_ok Tryd.func4 rfl rfl (by show 3 ≤ _; decide) 0 (hlt_ok (by rfl)) fun c0 => ?_
    repeat' (first | (refine SS_ ?_) | (refine VC.drawm (id := 8) [(0, 0), (1, 1), (2, 3), (3, 3), (4, 15), (5, 31), (6, 63), (7, 127), (8, 127), (9, 511), (10, 1023), (11, 2047), (12, 4095), (13, 4095), (14, 16383), (15, 32767), (16, 65535), (17, 131071), (18, 131071), (19, 524287), (20, 1048575), (21, 2097151), (22, 4194303), (23, 4194303), (24, 12582911), (25, 4194303), (26, 67108863), (27, 4194303), (28, 4194303), (29, 272629759), (30, 4194303), (31, 2147483647), (32, 4294967295), (33, 8589934591)] [34] (by rfl) (by kernel_rfl) (by rfl) ?_) | (refine DSeq.eqarr (true) tt_ok (by rfl) (fastE (by rfl)) (fastH (by rfl)) (by rfl) (by rfl) (by rfl) (by kernel_rfl) (by rfl) (by rfl) (by rfl) ⟨fun _ i hi => rfl, fun _ => rfl⟩ (by rfl) ?_) | (refine Seq.lit (by rfl) (by rfl) LT2_ ?_) | (refine Seq.callq false (csan) Tryd.func9 GG_ SG_ (by rfl) rfl rfl rfl (by rfl) rfl VW_ NI_ NI_ FR_ ?_) | (refine Seq.callq false (c1) Tryd.func12 GG_ SG_ (by rfl) rfl rfl rfl (by rfl) rfl VW_ NI_ NI_ FR_ ?_) | (refine Seq.callq false (c2) Tryd.func13 GG_ SG_ (by rfl) rfl rfl rfl (by rfl) rfl VW_ NI_ NI_ FR_ ?_) | (refine Seq.callq false (c3) Tryd.func14 GG_ SG_ (by rfl) rfl rfl rfl (by rfl) rfl VW_ NI_ NI_ FR_ ?_) | (refine Seq.callq false (c4) Tryd.func15 GG_ SG_ (by rfl) rfl rfl rfl (by rfl) rfl VW_ NI_ NI_ FR_ ?_) | (refine VC.litF (by rfl) LFA_ ?_) | (refine DD_ ?_) | (refine DSeq.lit2 (by rfl) (by rfl) (by rfl) LT2_ (by rfl) ?_) | (refine DSeq.callq false (c5) Tryd.func16 GG_ SG_ (by rfl) (fastE (by rfl)) (fastH (by rfl)) (by rfl) rfl rfl rfl (by rfl) (by rfl) VW_ NI_ NI_ FR_ ?_) | (refine DSeq.callq false (c6) Tryd.func17 GG_ SG_ (by rfl) (fastE (by rfl)) (fastH (by rfl)) (by rfl) rfl rfl rfl (by rfl) (by rfl) VW_ NI_ NI_ FR_ ?_) | (refine DSeq.litC2 (by rfl) (by rfl) (by rfl) (by rfl) (by rfl) (fun hb => ?_) (fun hb => ?_) <;> (fail_if_success (with_reducible have := litT_ hb)) <;> (fail_if_success (with_reducible have := litF_ hb)) <;> (try simp only [HB_] at hb) <;> (try (exfalso; first | omega | (cases hb; done)))) | fail)
    · (refine retC_mk ([(6, .bool true)]) ([]) 0 (Sim.less [] (by rfl) R_ R_) (retQ_ok (by rfl) ([]) (fun i av h => h) ⟨?_, ?_⟩)) <;> rfl
    · exact absurd trivial (by assumption : ¬ True)
end Go.Proofs.YthejnchhddggmaaDoor
