
/- The reference's Verify, whatever the signature is. -/
import Derived.Test.YthejnchhddggmaaDoorNp
import Derived.Test.YthejnchhddggmaaDoorOd
set_option linter.unusedSimpArgs false
set_option linter.unusedVariables false
namespace Go.Proofs.YthejnchhddggmaaDoor
open Go.V Go.RowKit Go.U Go.L Go.Lx Go.Sg
set_option maxRecDepth 10000
set_option maxHeartbeats 4000000
theorem rverify_ok (P : List UInt8) (hP : P.length = 16) (h : Int) (msg S : List UInt8) (hm : msg.length ≤ 10000000) (hS : S.length ≤ 10000000) :
    Ok Tryd.prog 19 gR [] (.pair (digA P) (.pair (.int .i64 h) (.pair (.str msg) (.pair (.str S) .nul)))) (fun r h' => r = verT (verE P h msg S) ∧ h' = []) := by
  by_cases hh : 0 ≤ h ∧ h ≤ 6
  · obtain ⟨h1, h2⟩ := hh
    obtain ⟨n, rfl⟩ : ∃ n : Nat, h = n := ⟨h.toNat, by omega⟩
    by_cases hml : 1048576 < msg.length
    · have hE : verE P (n : Nat) msg S = (0, 4) := by unfold verE; rw [if_neg (fun e => e ⟨h1, h2⟩), if_pos hml]
      rw [hE]
      refine Ok.of_vcC tt_ok Tryd.func19 rfl rfl (by show 4 ≤ _; decide) 0 (hlt_ok (by rfl)) fun c0 => ?_
      repeat' (first | (refine SS_ ?_) | (refine VC.litT (by rfl) LTR_ ?_) | (refine VC.litF (by rfl) LFA_ ?_) | fail)
      (refine retC_mk ([(8, .int .i64 0), (9, .int .i64 4)]) ([]) 1 (Sim.less [] (by rfl) R_ R_) (retQ_ok (by rfl) ([]) (fun i av h => h) ⟨?_, ?_⟩)) <;> rfl
    by_cases hg : (Wire.getI S).2.2 = 0
    · obtain ⟨k, u, hk, hu, hk1, hk2⟩ := Wire.getI_ok hg
      have hE : verE P (n : Nat) msg S = if k < 0 ∨ ((2 ^ n : Nat) : Int) ≤ k ∨ ((S.drop u).length : Int) ≠ (68 + (n : Int)) * 16 then (0, 2) else if upV k.toNat (msgD P k msg) (S.drop u) n = P then (k, 0) else (0, 10) := by
        unfold verE; rw [if_neg (fun e => e ⟨h1, h2⟩), if_neg hml, hk, if_neg (fun e => e rfl), Int.toNat_natCast]; rfl
      have h64 : 2 ^ n ≤ 2 ^ 6 := Nat.pow_le_pow_right (by decide) (by omega)
      have e64 : (2 : Nat) ^ 6 = 64 := by decide
      by_cases hb : k < 0 ∨ ((2 ^ n : Nat) : Int) ≤ k ∨ ((S.drop u).length : Int) ≠ (68 + (n : Int)) * 16
      · rw [if_pos hb] at hE
        rw [hE]
        have hsh := shl_i64 (d := n) (by omega)
        have c1 := refGet_ok false S (by omega)
        rw [hk, show giT (k, (u : Int), 0) = .tup (.pair (.int .i64 k) (.pair (.int .i64 (u : Nat)) (.pair (.int .i64 0) .nul))) from rfl] at c1
        generalize 2 ^ n = M at *
        have hdl : (S.drop u).length ≤ S.length := by rw [List.length_drop]; omega
        clear hE hk hg
        by_cases hk0 : k < 0
        · refine Ok.of_vcC tt_ok Tryd.func19 rfl rfl (by show 4 ≤ _; decide) 0 (hlt_ok (by rfl)) fun c0 => ?_
          repeat' (first | (refine SS_ ?_) | (refine Seq.lit (by rfl) (by rfl) LT2_ ?_) | (refine Seq.callq true (c1) Tryd.func41 GG_ SG_ (by rfl) rfl rfl rfl (by rfl) rfl VW_ NI_ NI_ FR_ ?_) | (refine VC.litT (by rfl) LTR_ ?_) | (refine VC.litF (by rfl) LFA_ ?_) | fail)
          (refine retC_mk ([(8, .int .i64 0), (9, .int .i64 2)]) ([]) 1 (Sim.less [] (by rfl) R_ R_) (retQ_ok (by rfl) ([]) (fun i av h => h) ⟨?_, ?_⟩)) <;> rfl
        · by_cases hkM : (M : Int) ≤ k
          · refine Ok.of_vcC tt_ok Tryd.func19 rfl rfl (by show 4 ≤ _; decide) 0 (hlt_ok (by rfl)) fun c0 => ?_
            repeat' (first | (refine SS_ ?_) | (refine Seq.lit (by rfl) (by rfl) LT2_ ?_) | (refine Seq.callq true (c1) Tryd.func41 GG_ SG_ (by rfl) rfl rfl rfl (by rfl) rfl VW_ NI_ NI_ FR_ ?_) | (refine VC.litT (by rfl) LTR_ ?_) | (refine VC.litF (by rfl) LFA_ ?_) | fail)
            (refine retC_mk ([(8, .int .i64 0), (9, .int .i64 2)]) ([]) 1 (Sim.less [] (by rfl) R_ R_) (retQ_ok (by rfl) ([]) (fun i av h => h) ⟨?_, ?_⟩)) <;> rfl
          · have hlr : (((S.take S.length).drop ((u : Nat) : Int).toNat).length : Int) ≠ (68 + (n : Int)) * 16 := by
              rw [List.take_length, Int.toNat_natCast]
              rcases hb with h | h | h
              · exact absurd h hk0
              · exact absurd h hkM
              · exact h
            refine Ok.of_vcC tt_ok Tryd.func19 rfl rfl (by show 4 ≤ _; decide) 0 (hlt_ok (by rfl)) fun c0 => ?_
            repeat' (first | (refine SS_ ?_) | (refine Seq.lit (by rfl) (by rfl) LT2_ ?_) | (refine Seq.callq true (c1) Tryd.func41 GG_ SG_ (by rfl) rfl rfl rfl (by rfl) rfl VW_ NI_ NI_ FR_ ?_) | (refine VC.litT (by rfl) LTR_ ?_) | (refine VC.litF (by rfl) LFA_ ?_) | fail)
            (refine retC_mk ([(8, .int .i64 0), (9, .int .i64 2)]) ([]) 1 (Sim.less [] (by rfl) R_ R_) (retQ_ok (by rfl) ([]) (fun i av h => h) ⟨?_, ?_⟩)) <;> rfl
      · rw [if_neg hb] at hE
        obtain ⟨m, rfl⟩ : ∃ m : Nat, k = m := ⟨k.toNat, by omega⟩
        have cc := rver_core P hP n (by omega) msg S (by omega) hS m u hk hu (by omega) (by omega)
        rw [Int.toNat_natCast] at hE
        rw [hE]
        have e3 : (if upV m (msgD P (m : Nat) msg) (S.drop u) n = P then AV.tup (.pair (.int .i64 (m : Nat)) (.pair (.int .i64 0) .nul)) else errV 10) = verT (if upV m (msgD P (m : Nat) msg) (S.drop u) n = P then ((m : Int), 0) else (0, 10)) := by split <;> rfl
        rw [e3] at cc
        exact cc
    · obtain ⟨e, he⟩ := Wire.getI_err hg
      rw [he] at hg
      have hg : e ≠ 0 := hg
      have hE : verE P (n : Nat) msg S = (0, e) := by
        unfold verE; rw [if_neg (fun e => e ⟨h1, h2⟩), if_neg hml, he, if_pos hg]
      rw [hE]
      have c1 := refGet_ok false S (by omega)
      rw [he, show giT (0, 0, e) = .tup (.pair (.int .i64 0) (.pair (.int .i64 0) (.pair (.int .i64 e) .nul))) from rfl] at c1
      refine Ok.of_vcC tt_ok Tryd.func19 rfl rfl (by show 4 ≤ _; decide) 0 (hlt_ok (by rfl)) fun c0 => ?_
      repeat' (first | (refine SS_ ?_) | (refine Seq.callq true (c1) Tryd.func41 GG_ SG_ (by rfl) rfl rfl rfl (by rfl) rfl VW_ NI_ NI_ FR_ ?_) | (refine VC.litT (by rfl) LTR_ ?_) | (refine VC.litF (by rfl) LFA_ ?_) | fail)
      (refine retC_mk ([(8, .int .i64 0), (9, .int .i64 e)]) ([]) 1 (Sim.less [] (by rfl) R_ R_) (retQ_ok (by rfl) ([]) (fun i av h => h) ⟨?_, ?_⟩)) <;> rfl
  · have hE : verE P h msg S = (0, 1) := by unfold verE; rw [if_pos hh]
    rw [hE]
    by_cases h0 : h < 0
    · clear hh
      refine Ok.of_vcC tt_ok Tryd.func19 rfl rfl (by show 4 ≤ _; decide) 0 (hlt_ok (by rfl)) fun c0 => ?_
      repeat' (first | (refine SS_ ?_) | (refine Seq.lit (by rfl) (by rfl) LT2_ ?_) | (refine VC.litT (by rfl) LTR_ ?_) | fail)
      (refine retC_mk ([(8, .int .i64 0), (9, .int .i64 1)]) ([]) 1 (Sim.less [] (by rfl) R_ R_) (retQ_ok (by rfl) ([]) (fun i av h => h) ⟨?_, ?_⟩)) <;> rfl
    · have h6 : 6 < h := by omega
      clear hh
      refine Ok.of_vcC tt_ok Tryd.func19 rfl rfl (by show 4 ≤ _; decide) 0 (hlt_ok (by rfl)) fun c0 => ?_
      repeat' (first | (refine SS_ ?_) | (refine Seq.lit (by rfl) (by rfl) LT2_ ?_) | (refine VC.litT (by rfl) LTR_ ?_) | fail)
      (refine retC_mk ([(8, .int .i64 0), (9, .int .i64 1)]) ([]) 1 (Sim.less [] (by rfl) R_ R_) (retQ_ok (by rfl) ([]) (fun i av h => h) ⟨?_, ?_⟩)) <;> rfl
end Go.Proofs.YthejnchhddggmaaDoor
