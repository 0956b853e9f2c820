
/- sign.Verify, whatever the signature is. -/
import Derived.Test.YthejnchhddggmaaDoorNo
set_option linter.unusedSimpArgs false
set_option linter.unusedVariables false
namespace Wire
theorem getI_ok {b : List UInt8} (h : (getI b).2.2 = 0) : ∃ (n : Int) (u : Nat), getI b = (n, (u : Int), 0) ∧ u ≤ b.length ∧ -9223372036854775808 ≤ n ∧ n ≤ 9223372036854775807 := by
  unfold getI at *
  by_cases h0 : b.length = 0
  · rw [if_pos h0] at h; cases h
  rw [if_neg h0] at *
  by_cases h1 : 8 < kOf (b.getD 0 0)
  · rw [if_pos h1] at h; cases h
  rw [if_neg h1] at *
  by_cases h2 : b.length ≤ kOf (b.getD 0 0)
  · rw [if_pos h2] at h; cases h
  rw [if_neg h2] at *
  by_cases h3 : 0 < kOf (b.getD 0 0) ∧ (b.getD 1 0 ^^^ fl (b.getD 0 0)).toNat = 0
  · rw [if_pos h3] at h; cases h
  rw [if_neg h3] at *
  by_cases h4 : 9223372036854775808 ≤ valI (fl (b.getD 0 0)) b (kOf (b.getD 0 0))
  · rw [if_pos h4] at h; cases h
  rw [if_neg h4] at *
  refine ⟨_, kOf (b.getD 0 0) + 1, rfl, by omega, ?_⟩
  unfold neg
  split <;> omega
theorem getI_err {b : List UInt8} (h : (getI b).2.2 ≠ 0) : ∃ e : Int, getI b = (0, 0, e) := by
  unfold getI at *
  by_cases h0 : b.length = 0
  · rw [if_pos h0]; exact ⟨_, rfl⟩
  rw [if_neg h0] at *
  by_cases h1 : 8 < kOf (b.getD 0 0)
  · rw [if_pos h1]; exact ⟨_, rfl⟩
  rw [if_neg h1] at *
  by_cases h2 : b.length ≤ kOf (b.getD 0 0)
  · rw [if_pos h2]; exact ⟨_, rfl⟩
  rw [if_neg h2] at *
  by_cases h3 : 0 < kOf (b.getD 0 0) ∧ (b.getD 1 0 ^^^ fl (b.getD 0 0)).toNat = 0
  · rw [if_pos h3]; exact ⟨_, rfl⟩
  rw [if_neg h3] at *
  by_cases h4 : 9223372036854775808 ≤ valI (fl (b.getD 0 0)) b (kOf (b.getD 0 0))
  · rw [if_pos h4]; exact ⟨_, rfl⟩
  rw [if_neg h4] at h
  exact absurd rfl h
end Wire
namespace Go.Proofs.YthejnchhddggmaaDoor
open Go.V Go.RowKit Go.U Go.L Go.Lx Go.Sg
set_option maxRecDepth 10000
set_option maxHeartbeats 4000000
/-- What Verify answers. -/
def verE (P : List UInt8) (h : Int) (msg S : List UInt8) : Int × Int :=
  if ¬ (0 ≤ h ∧ h ≤ 6) then (0, 1)
  else if 1048576 < msg.length then (0, 4)
  else if (Wire.getI S).2.2 ≠ 0 then (0, (Wire.getI S).2.2)
  else if (Wire.getI S).1 < 0 ∨ ((2 ^ h.toNat : Nat) : Int) ≤ (Wire.getI S).1 ∨ ((S.drop (Wire.getI S).2.1.toNat).length : Int) ≠ (68 + h) * 16 then (0, 2)
  else if upV (Wire.getI S).1.toNat (msgD P (Wire.getI S).1 msg) (S.drop (Wire.getI S).2.1.toNat) h.toNat = P then ((Wire.getI S).1, 0)
  else (0, 10)
def verT (r : Int × Int) : AV := .tup (.pair (.int .i64 r.1) (.pair (.int .i64 r.2) .nul))
theorem verify_ok (P : List UInt8) (hP : P.length = 16) (h : Int) (msg S : List UInt8) (hm : msg.length ≤ 10000000) (hS : S.length ≤ 10000000) :
    Ok Tryd.prog 18 gK [] (.pair (digA P) (.pair (.int .i64 h) (.pair (.str msg) (.pair (.str S) .nul)))) (fun r h' => r = verT (verE P h msg S) ∧ h' = []) := by
  have cv := svalid_ok h
  by_cases hh : 0 ≤ h ∧ h ≤ 6
  · rw [decide_eq_true hh] at cv
    obtain ⟨h1, h2⟩ := hh
    obtain ⟨n, rfl⟩ : ∃ n : Nat, h = n := ⟨h.toNat, by omega⟩
    by_cases hml : 1048576 < msg.length
    · have hE : verE P (n : Nat) msg S = (0, 4) := by unfold verE; rw [if_neg (fun e => e ⟨h1, h2⟩), if_pos hml]
      rw [hE]
      refine Ok.of_vcC tt_ok Tryd.func18 rfl rfl (by show 4 ≤ _; decide) 0 (hlt_ok (by rfl)) fun c0 => ?_
      repeat' (first | (refine SS_ ?_) | (refine Seq.callq false (cv) Tryd.func21 GG_ SG_ (by rfl) rfl rfl rfl (by rfl) rfl VW_ NI_ NI_ FR_ ?_) | (refine VC.litT (by rfl) LTR_ ?_) | (refine VC.litF (by rfl) LFA_ ?_) | fail)
      (refine retC_mk ([(8, .int .i64 0), (9, .int .i64 4)]) ([]) 1 (Sim.less [] (by rfl) R_ R_) (retQ_ok (by rfl) ([]) (fun i av h => h) ⟨?_, ?_⟩)) <;> rfl
    by_cases hg : (Wire.getI S).2.2 = 0
    · obtain ⟨k, u, hk, hu, hk1, hk2⟩ := Wire.getI_ok hg
      have hE : verE P (n : Nat) msg S = if k < 0 ∨ ((2 ^ n : Nat) : Int) ≤ k ∨ ((S.drop u).length : Int) ≠ (68 + (n : Int)) * 16 then (0, 2) else if upV k.toNat (msgD P k msg) (S.drop u) n = P then (k, 0) else (0, 10) := by
        unfold verE; rw [if_neg (fun e => e ⟨h1, h2⟩), if_neg hml, hk, if_neg (fun e => e rfl), Int.toNat_natCast]; rfl
      have h64 : 2 ^ n ≤ 2 ^ 6 := Nat.pow_le_pow_right (by decide) (by omega)
      have e64 : (2 : Nat) ^ 6 = 64 := by decide
      by_cases hb : k < 0 ∨ ((2 ^ n : Nat) : Int) ≤ k ∨ ((S.drop u).length : Int) ≠ (68 + (n : Int)) * 16
      · rw [if_pos hb] at hE
        rw [hE]
        have hsh := shl_i64 (d := n) (by omega)
        have c1 := wireGet_ok false S (by omega)
        rw [hk, show giT (k, (u : Int), 0) = .tup (.pair (.int .i64 k) (.pair (.int .i64 (u : Nat)) (.pair (.int .i64 0) .nul))) from rfl] at c1
        generalize 2 ^ n = M at *
        have hdl : (S.drop u).length ≤ S.length := by rw [List.length_drop]; omega
        clear hE hk hg
        by_cases hk0 : k < 0
        · refine Ok.of_vcC tt_ok Tryd.func18 rfl rfl (by show 4 ≤ _; decide) 0 (hlt_ok (by rfl)) fun c0 => ?_
          repeat' (first | (refine SS_ ?_) | (refine Seq.callq false (cv) Tryd.func21 GG_ SG_ (by rfl) rfl rfl rfl (by rfl) rfl VW_ NI_ NI_ FR_ ?_) | (refine Seq.callq true (c1) Tryd.func36 GG_ SG_ (by rfl) rfl rfl rfl (by rfl) rfl VW_ NI_ NI_ FR_ ?_) | (refine VC.litF (by rfl) LFA_ ?_) | fail)
          refine V.Seq.same 38 (u' := .str (S.drop u)) (by rfl) (congrArg AV.str (by rw [List.take_length, Int.toNat_natCast])) ?_
          generalize S.drop u = R at *
          repeat' (first | (refine SS_ ?_) | (refine VC.drawm (id := 9) [(0, 0), (1, 1), (2, 3), (3, 7), (4, 7), (5, 23), (6, 63), (7, 127), (8, 255), (9, 511), (10, 1023), (11, 511), (12, 2559), (13, 6655), (14, 16383), (15, 32767)] [] (by rfl) (by kernel_rfl) (by rfl) ?_) | (refine VC.litT (by rfl) LTR_ ?_) | (refine DD_ ?_) | (refine DSeq.lit2 (by rfl) (by rfl) (by rfl) LT2_ (by rfl) ?_) | fail)
          (refine retC_mk ([(8, .int .i64 0), (9, .int .i64 2)]) ([]) 5 (Sim.less [] (by rfl) R_ R_) (retQ_ok (by rfl) ([]) (fun i av h => h) ⟨?_, ?_⟩)) <;> rfl
        · by_cases hkM : (M : Int) ≤ k
          · refine Ok.of_vcC tt_ok Tryd.func18 rfl rfl (by show 4 ≤ _; decide) 0 (hlt_ok (by rfl)) fun c0 => ?_
            repeat' (first | (refine SS_ ?_) | (refine Seq.callq false (cv) Tryd.func21 GG_ SG_ (by rfl) rfl rfl rfl (by rfl) rfl VW_ NI_ NI_ FR_ ?_) | (refine Seq.callq true (c1) Tryd.func36 GG_ SG_ (by rfl) rfl rfl rfl (by rfl) rfl VW_ NI_ NI_ FR_ ?_) | (refine VC.litF (by rfl) LFA_ ?_) | fail)
            refine V.Seq.same 38 (u' := .str (S.drop u)) (by rfl) (congrArg AV.str (by rw [List.take_length, Int.toNat_natCast])) ?_
            generalize S.drop u = R at *
            repeat' (first | (refine SS_ ?_) | (refine VC.drawm (id := 9) [(0, 0), (1, 1), (2, 3), (3, 7), (4, 7), (5, 23), (6, 63), (7, 127), (8, 255), (9, 511), (10, 1023), (11, 511), (12, 2559), (13, 6655), (14, 16383), (15, 32767)] [] (by rfl) (by kernel_rfl) (by rfl) ?_) | (refine VC.litT (by rfl) LTR_ ?_) | (refine DD_ ?_) | (refine DSeq.lit2 (by rfl) (by rfl) (by rfl) LT2_ (by rfl) ?_) | fail)
            (refine retC_mk ([(8, .int .i64 0), (9, .int .i64 2)]) ([]) 5 (Sim.less [] (by rfl) R_ R_) (retQ_ok (by rfl) ([]) (fun i av h => h) ⟨?_, ?_⟩)) <;> rfl
          · refine Ok.of_vcC tt_ok Tryd.func18 rfl rfl (by show 4 ≤ _; decide) 0 (hlt_ok (by rfl)) fun c0 => ?_
            repeat' (first | (refine SS_ ?_) | (refine Seq.callq false (cv) Tryd.func21 GG_ SG_ (by rfl) rfl rfl rfl (by rfl) rfl VW_ NI_ NI_ FR_ ?_) | (refine Seq.callq true (c1) Tryd.func36 GG_ SG_ (by rfl) rfl rfl rfl (by rfl) rfl VW_ NI_ NI_ FR_ ?_) | (refine VC.litF (by rfl) LFA_ ?_) | fail)
            refine V.Seq.same 38 (u' := .str (S.drop u)) (by rfl) (congrArg AV.str (by rw [List.take_length, Int.toNat_natCast])) ?_
            generalize S.drop u = R at *
            repeat' (first | (refine SS_ ?_) | (refine VC.drawm (id := 9) [(0, 0), (1, 1), (2, 3), (3, 7), (4, 7), (5, 23), (6, 63), (7, 127), (8, 255), (9, 511), (10, 1023), (11, 511), (12, 2559), (13, 6655), (14, 16383), (15, 32767)] [] (by rfl) (by kernel_rfl) (by rfl) ?_) | (refine VC.litT (by rfl) LTR_ ?_) | (refine DD_ ?_) | (refine DSeq.lit2 (by rfl) (by rfl) (by rfl) LT2_ (by rfl) ?_) | fail)
            (refine retC_mk ([(8, .int .i64 0), (9, .int .i64 2)]) ([]) 5 (Sim.less [] (by rfl) R_ R_) (retQ_ok (by rfl) ([]) (fun i av h => h) ⟨?_, ?_⟩)) <;> rfl
      · rw [if_neg hb] at hE
        obtain ⟨m, rfl⟩ : ∃ m : Nat, k = m := ⟨k.toNat, by omega⟩
        have cc := ver_core P hP n (by omega) msg S (by omega) hS m u hk hu (by omega) (by omega)
        rw [Int.toNat_natCast] at hE
        rw [hE]
        have e3 : (if upV m (msgD P (m : Nat) msg) (S.drop u) n = P then AV.tup (.pair (.int .i64 (m : Nat)) (.pair (.int .i64 0) .nul)) else errV 10) = verT (if upV m (msgD P (m : Nat) msg) (S.drop u) n = P then ((m : Int), 0) else (0, 10)) := by split <;> rfl
        rw [e3] at cc
        exact cc
    · obtain ⟨e, he⟩ := Wire.getI_err hg
      rw [he] at hg
      have hg : e ≠ 0 := hg
      have hE : verE P (n : Nat) msg S = (0, e) := by
        unfold verE; rw [if_neg (fun e => e ⟨h1, h2⟩), if_neg hml, he, if_pos hg]
      rw [hE]
      have c1 := wireGet_ok false S (by omega)
      rw [he, show giT (0, 0, e) = .tup (.pair (.int .i64 0) (.pair (.int .i64 0) (.pair (.int .i64 e) .nul))) from rfl] at c1
      refine Ok.of_vcC tt_ok Tryd.func18 rfl rfl (by show 4 ≤ _; decide) 0 (hlt_ok (by rfl)) fun c0 => ?_
      repeat' (first | (refine SS_ ?_) | (refine Seq.callq false (cv) Tryd.func21 GG_ SG_ (by rfl) rfl rfl rfl (by rfl) rfl VW_ NI_ NI_ FR_ ?_) | (refine Seq.callq true (c1) Tryd.func36 GG_ SG_ (by rfl) rfl rfl rfl (by rfl) rfl VW_ NI_ NI_ FR_ ?_) | (refine VC.litT (by rfl) LTR_ ?_) | (refine VC.litF (by rfl) LFA_ ?_) | fail)
      (refine retC_mk ([(8, .int .i64 0), (9, .int .i64 e)]) ([]) 4 (Sim.less [] (by rfl) R_ R_) (retQ_ok (by rfl) ([]) (fun i av h => h) ⟨?_, ?_⟩)) <;> rfl
  · rw [decide_eq_false hh] at cv
    have hE : verE P h msg S = (0, 1) := by unfold verE; rw [if_pos hh]
    rw [hE]
    clear hh
    refine Ok.of_vcC tt_ok Tryd.func18 rfl rfl (by show 4 ≤ _; decide) 0 (hlt_ok (by rfl)) fun c0 => ?_
    repeat' (first | (refine SS_ ?_) | (refine Seq.callq false (cv) Tryd.func21 GG_ SG_ (by rfl) rfl rfl rfl (by rfl) rfl VW_ NI_ NI_ FR_ ?_) | (refine VC.litT (by rfl) LTR_ ?_) | fail)
    (refine retC_mk ([(8, .int .i64 0), (9, .int .i64 1)]) ([]) 1 (Sim.less [] (by rfl) R_ R_) (retQ_ok (by rfl) ([]) (fun i av h => h) ⟨?_, ?_⟩)) <;> rfl
end Go.Proofs.YthejnchhddggmaaDoor
