
/- The reference's GetInt: what it decodes. -/
import Derived.Test.YthejnchhddggmaaDoorNc
set_option linter.unusedSimpArgs false
set_option linter.unusedVariables false
namespace Go.Proofs.YthejnchhddggmaaDoor
open Go.V Go.RowKit Go.U Go.L Go.Lx
set_option maxRecDepth 10000
set_option maxHeartbeats 4000000
theorem bytes_eq {a b : List UInt8} (hl : a.length = b.length) (h : ∀ i, i < a.length → a.getD i 0 = b.getD i 0) : a = b := by
  refine List.ext_getElem hl fun i h1 h2 => ?_
  have := h i h1
  rwa [List.getD_eq_getElem?_getD, List.getD_eq_getElem?_getD, List.getElem?_eq_getElem h1, List.getElem?_eq_getElem h2] at this
theorem same_ok (f1 f2 : Bool) (a b : List UInt8) (ha : a.length ≤ 1000000000000) (hb : b.length ≤ 1000000000000) : Ok Tryd.prog 58 [] [] (.pair (bytesA f1 a) (.pair (bytesA f2 b) .nul)) (fun r h' => r = .bool (decide (a = b)) ∧ h' = []) := by
  by_cases hl : a.length = b.length
  · refine Ok.of_vcC tt_ok Tryd.func58 rfl rfl (by show 2 ≤ _; decide) 0 (hlt_ok (by rfl)) fun c0 => ?_
    repeat' (first | (refine SS_ ?_) | (refine VC.litF (by rfl) LFA_ ?_) | fail)
    refine VC.loop (fun i : Nat => ⟨[(5, .int .i64 (i : Nat)), (1, bytesA f2 b), (0, bytesA f1 a)], [], [], 0⟩) (fun i => i ≤ a.length ∧ ∀ j, j < i → a.getD j 0 = b.getD j 0) (fun i => a.length - i) 0 ⟨by omega, fun j hj => by omega⟩ (Sim.less [] (by rfl) R_ R_) fun i hi => ?_
    obtain ⟨hi1, hi2⟩ := hi
    by_cases hik : i < a.length
    · have ei : ((i : Nat) : Int).toNat = i := by omega
      by_cases he : a.getD i 0 = b.getD i 0
      · have he2 : (a.getD ((i : Nat) : Int).toNat 0).toNat = (b.getD ((i : Nat) : Int).toNat 0).toNat := by rw [ei, he]
        repeat' (first | (refine SS_ ?_) | (refine VC.drawm (id := 6) [(0, 0), (1, 0), (2, 3), (3, 7), (4, 0), (5, 0), (6, 48), (7, 112), (8, 255)] [] (by rfl) (by kernel_rfl) (by rfl) ?_) | (refine VC.litT (by rfl) LTR_ ?_) | (refine VC.litF (by rfl) LFA_ ?_) | (refine DD_ ?_) | fail)
        refine ⟨i + 1, ⟨by omega, fun j hj => ?_⟩, by omega, ?_⟩
        · rcases (by omega : j < i ∨ j = i) with h | h
          · exact hi2 j h
          · rw [h]; exact he
        · exact (Sim.less [] (by rfl) R_ R_)
      · have he2 : (a.getD ((i : Nat) : Int).toNat 0).toNat ≠ (b.getD ((i : Nat) : Int).toNat 0).toNat := by
          rw [ei]; exact fun e => he (UInt8.toNat_inj.1 e)
        repeat' (first | (refine SS_ ?_) | (refine VC.drawm (id := 6) [(0, 0), (1, 0), (2, 3), (3, 7), (4, 0), (5, 0), (6, 48), (7, 112), (8, 255)] [] (by rfl) (by kernel_rfl) (by rfl) ?_) | (refine VC.litT (by rfl) LTR_ ?_) | (refine DD_ ?_) | fail)
        rw [show decide (a = b) = false from decide_eq_false (fun e => he (by rw [e]))]
        (refine retC_mk ([(4, .bool false)]) ([]) 0 (Sim.less [] (by rfl) R_ R_) (retQ_ok (by rfl) ([]) (fun i av h => h) ⟨?_, ?_⟩)) <;> rfl
    · repeat' (first | (refine SS_ ?_) | (refine VC.litF (by rfl) LFA_ ?_) | fail)
      rw [show decide (a = b) = true from decide_eq_true (bytes_eq hl fun j hj => hi2 j (by omega))]
      (refine retC_mk ([(4, .bool true)]) ([]) 0 (Sim.less [] (by rfl) R_ R_) (retQ_ok (by rfl) ([]) (fun i av h => h) ⟨?_, ?_⟩)) <;> rfl
  · rw [show decide (a = b) = false from decide_eq_false (fun e => hl (by rw [e]))]
    refine Ok.of_vcC tt_ok Tryd.func58 rfl rfl (by show 2 ≤ _; decide) 0 (hlt_ok (by rfl)) fun c0 => ?_
    repeat' (first | (refine SS_ ?_) | (refine VC.litT (by rfl) LTR_ ?_) | fail)
    (refine retC_mk ([(4, .bool false)]) ([]) 0 (Sim.less [] (by rfl) R_ R_) (retQ_ok (by rfl) ([]) (fun i av h => h) ⟨?_, ?_⟩)) <;> rfl
theorem refGet_ok (fr : Bool) (b : List UInt8) (hl : b.length ≤ 1000000000000) : Ok Tryd.prog 41 [] [] (.pair (bytesA fr b) .nul) (fun r h' => r = giT (Wire.getI b) ∧ h' = []) := by
  by_cases h0 : b.length = 0
  · have hE : Wire.getI b = (0, 0, 3) := by unfold Wire.getI; rw [if_pos h0]
    rw [hE]
    refine Ok.of_vcC tt_ok Tryd.func41 rfl rfl (by show 1 ≤ _; decide) 0 (hlt_ok (by rfl)) fun c0 => ?_
    repeat' (first | (refine SS_ ?_) | (refine VC.litT (by rfl) LTR_ ?_) | fail)
    (refine retC_mk ([(2, .int .i64 0), (3, .int .i64 0), (4, .int .i64 3)]) ([]) 0 (Sim.less [] (by rfl) R_ R_) (retQ_ok (by rfl) ([]) (fun i av h => h) ⟨?_, ?_⟩)) <;> rfl
  · have hE : Wire.getI b = (if 8 < Wire.kOf (b.getD (Int.toNat 0) 0) then (0, 0, 2)
        else if b.length ≤ Wire.kOf (b.getD (Int.toNat 0) 0) then (0, 0, 3)
        else if 0 < Wire.kOf (b.getD (Int.toNat 0) 0) ∧ (b.getD 1 0 ^^^ Wire.fl (b.getD (Int.toNat 0) 0)).toNat = 0 then (0, 0, 2)
        else if 9223372036854775808 ≤ Wire.valI (Wire.fl (b.getD (Int.toNat 0) 0)) b (Wire.kOf (b.getD (Int.toNat 0) 0)) then (0, 0, 2)
        else (Wire.neg (b.getD (Int.toNat 0) 0) (Wire.valI (Wire.fl (b.getD (Int.toNat 0) 0)) b (Wire.kOf (b.getD (Int.toNat 0) 0))), ((Wire.kOf (b.getD (Int.toNat 0) 0) : Nat) : Int) + 1, 0) : Int × Int × Int) := by
      conv => lhs; unfold Wire.getI
      rw [if_neg h0]; rfl
    have hb0 := (b.getD (Int.toNat 0) 0).toNat_lt
    have hIV : Wire.kOf (b.getD (Int.toNat 0) 0) < b.length → Wire.kOf (b.getD (Int.toNat 0) 0) ≤ 8 → _ := Wire.int_val b
    have hov : ∀ {i k}, _ → _ → _ := fun {i k} => @Wire.valI_over (Wire.fl (b.getD (Int.toNat 0) 0)) b i k
    have hun : ∀ {i}, _ → _ := fun {i} => @Wire.valI_under (Wire.fl (b.getD (Int.toNat 0) 0)) b i
    have hv := Wire.valI_succ (Wire.fl (b.getD (Int.toNat 0) 0)) b
    have hv0 : Wire.valI (Wire.fl (b.getD (Int.toNat 0) 0)) b 0 = 0 := rfl
    change _ → _ → (Wire.int (Wire.neg (b.getD (Int.toNat 0) 0) (Wire.valI (Wire.fl (b.getD (Int.toNat 0) 0)) b (Wire.kOf (b.getD (Int.toNat 0) 0)))) = b.take (Wire.kOf (b.getD (Int.toNat 0) 0) + 1) ↔ ¬ (0 < Wire.kOf (b.getD (Int.toNat 0) 0) ∧ (b.getD 1 0 ^^^ Wire.fl (b.getD (Int.toNat 0) 0)).toNat = 0)) at hIV
    by_cases hs : (b.getD (Int.toNat 0) 0).toNat < 128
    · obtain ⟨e1, e2⟩ := Wire.kOf_neg hs
      rw [e1] at hE hIV hov hun hv hv0
      rw [e2] at hE hIV
      by_cases p1 : 8 < 127 - (b.getD (Int.toNat 0) 0).toNat
      · rw [if_pos p1] at hE
        rw [hE]
        refine Ok.of_vcC tt_ok Tryd.func41 rfl rfl (by show 1 ≤ _; decide) 0 (hlt_ok (by rfl)) fun c0 => ?_
        repeat' (first | (refine SS_ ?_) | (refine Seq.lit (by rfl) (by rfl) LT2_ ?_) | (refine VC.litT (by rfl) LTR_ ?_) | (refine VC.litF (by rfl) LFA_ ?_) | fail)
        all_goals ((refine retC_mk ([(2, .int .i64 0), (3, .int .i64 0), (4, .int .i64 2)]) ([]) 0 (Sim.less [] (by rfl) R_ R_) (retQ_ok (by rfl) ([]) (fun i av h => h) ⟨?_, ?_⟩)) <;> rfl)
      rw [if_neg p1] at hE
      by_cases p2 : b.length ≤ 127 - (b.getD (Int.toNat 0) 0).toNat
      · rw [if_pos p2] at hE
        rw [hE]
        refine Ok.of_vcC tt_ok Tryd.func41 rfl rfl (by show 1 ≤ _; decide) 0 (hlt_ok (by rfl)) fun c0 => ?_
        repeat' (first | (refine SS_ ?_) | (refine Seq.lit (by rfl) (by rfl) LT2_ ?_) | (refine VC.litT (by rfl) LTR_ ?_) | (refine VC.litF (by rfl) LFA_ ?_) | fail)
        all_goals ((refine retC_mk ([(2, .int .i64 0), (3, .int .i64 0), (4, .int .i64 3)]) ([]) 0 (Sim.less [] (by rfl) R_ R_) (retQ_ok (by rfl) ([]) (fun i av h => h) ⟨?_, ?_⟩)) <;> rfl)
      rw [if_neg p2] at hE
      replace hIV := hIV (by omega) (by omega)
      obtain ⟨K, hK⟩ : ∃ K, K = 127 - (b.getD (Int.toNat 0) 0).toNat := ⟨_, rfl⟩
      rw [← hK] at hE p1 p2 hIV
      replace hv : ∀ i, _ := fun i => (hv i).trans (congrArg (Wire.valI 255 b i * 256 + ·) (Wire.xor255 _))
      generalize Wire.valI 255 b = V at *
      have c2 := same_ok false false (Wire.int (Wire.neg (b.getD (Int.toNat 0) 0) (V K))) (b.take (K + 1)) (by have := Wire.int_length (Wire.neg (b.getD (Int.toNat 0) 0) (V K)); omega) (by rw [List.length_take]; omega)
      unfold Wire.neg at c2 hE hIV
      rw [if_pos hs] at c2 hE hIV
      refine Ok.of_vcC tt_ok Tryd.func41 rfl rfl (by show 1 ≤ _; decide) 0 (hlt_ok (by rfl)) fun c0 => ?_
      repeat' (first | (refine SS_ ?_) | (refine Seq.lit (by rfl) (by rfl) LT2_ ?_) | (refine VC.litT (by rfl) LTR_ ?_) | (refine VC.litF (by rfl) LFA_ ?_) | fail)
      refine VC.loop (fun j : Nat => ⟨[(8, .int .i64 ((j + 1 : Nat) : Int)), (7, .int .i64 (V j : Nat)), (5, .int .i64 ((b.getD (Int.toNat 0) 0).toNat : Nat)), (6, .int .i64 (K : Nat)), (0, bytesA fr b)], [], [], 0⟩) (fun j => j ≤ K ∧ V j < 9223372036854775808) (fun j => K - j) 0 ⟨by omega, by omega⟩ (Sim.less [] (by rfl) R_ R_) fun j hj => ?_
      obtain ⟨hj1, hj2⟩ := hj
      by_cases hjk : j < K
      · have ej : (b.getD ((j + 1 : Nat) : Int).toNat 0).toNat = (b.getD (j + 1) 0).toNat := by rw [Int.toNat_natCast]
        have hd := (b.getD (j + 1) 0).toNat_lt
        have hvj := hv j
        by_cases hg : 36028797018963967 < V j
        · have hE2 : Wire.getI b = (0, 0, 2) := by
            rw [hE, if_pos (hov hjk hg)]
            split <;> rfl
          rw [hE2]
          repeat' (first | (refine SS_ ?_) | (refine VC.litT (by rfl) LTR_ ?_) | fail)
          (refine retC_mk ([(2, .int .i64 0), (3, .int .i64 0), (4, .int .i64 2)]) ([]) 0 (Sim.less [] (by rfl) R_ R_) (retQ_ok (by rfl) ([]) (fun i av h => h) ⟨?_, ?_⟩)) <;> rfl
        · have hu := hun hg
          repeat' (first | (refine SS_ ?_) | (refine VC.litT (by rfl) LTR_ ?_) | (refine VC.litF (by rfl) LFA_ ?_) | fail)
          refine ⟨j + 1, ⟨by omega, hu⟩, by omega, ?_⟩
          exact (Sim.less [] (by rfl) R_ R_)
      · obtain rfl : j = K := by omega
        have c1 := refInt_ok (-1 - ((V j : Nat) : Int)) ⟨by omega, by omega⟩
        have hE3 : ¬ 9223372036854775808 ≤ V j := by omega
        rw [if_neg hE3] at hE
        generalize hw : Wire.int (-1 - ((V j : Nat) : Int)) = w at *
        by_cases hpp : (0 < j ∧ (b.getD 1 0 ^^^ 255).toNat = 0)
        · rw [if_pos hpp] at hE
          rw [show decide (w = b.take (j + 1)) = false from decide_eq_false fun e => hIV.1 e hpp] at c2
          rw [hE]
          repeat' (first | (refine SS_ ?_) | (refine VC.drawm (id := 24) [(0, 0), (1, 1), (2, 0), (3, 0), (4, 8), (5, 28), (6, 63), (7, 127)] [] (by rfl) (by kernel_rfl) (by rfl) ?_) | (refine VC.litT (by rfl) LTR_ ?_) | (refine VC.litF (by rfl) LFA_ ?_) | (refine DD_ ?_) | (refine DSeq.callq false (c1) Tryd.func30 GG_ SG_ (by rfl) (fastE (by rfl)) (fastH (by rfl)) (by rfl) rfl rfl rfl (by rfl) (by rfl) VW_ NI_ NI_ FR_ ?_) | (refine DSeq.callq false (c2) Tryd.func58 GG_ SG_ (by rfl) (fastE (by rfl)) (fastH (by rfl)) (by rfl) rfl rfl rfl (by rfl) (by rfl) VW_ NI_ NI_ FR_ ?_) | fail)
          (refine retC_mk ([(2, .int .i64 0), (3, .int .i64 0), (4, .int .i64 2)]) ([]) 0 (Sim.less [] (by rfl) R_ R_) (retQ_ok (by rfl) ([]) (fun i av h => h) ⟨?_, ?_⟩)) <;> rfl
        · rw [if_neg hpp] at hE
          rw [show decide (w = b.take (j + 1)) = true from decide_eq_true (hIV.2 hpp)] at c2
          rw [hE]
          repeat' (first | (refine SS_ ?_) | (refine VC.drawm (id := 24) [(0, 0), (1, 1), (2, 0), (3, 0), (4, 8), (5, 28), (6, 63), (7, 127)] [] (by rfl) (by kernel_rfl) (by rfl) ?_) | (refine VC.litT (by rfl) LTR_ ?_) | (refine VC.litF (by rfl) LFA_ ?_) | (refine DD_ ?_) | (refine DSeq.callq false (c1) Tryd.func30 GG_ SG_ (by rfl) (fastE (by rfl)) (fastH (by rfl)) (by rfl) rfl rfl rfl (by rfl) (by rfl) VW_ NI_ NI_ FR_ ?_) | (refine DSeq.callq false (c2) Tryd.func58 GG_ SG_ (by rfl) (fastE (by rfl)) (fastH (by rfl)) (by rfl) rfl rfl rfl (by rfl) (by rfl) VW_ NI_ NI_ FR_ ?_) | fail)
          (refine retC_mk ([(2, .int .i64 (-1 - ((V j : Nat) : Int))), (3, .int .i64 ((j : Nat) + 1)), (4, .int .i64 0)]) ([]) 0 (Sim.less [] (by rfl) R_ R_) (retQ_ok (by rfl) ([]) (fun i av h => h) ⟨?_, ?_⟩)) <;> rfl
    · obtain ⟨e1, e2⟩ := Wire.kOf_pos hs
      rw [e1] at hE hIV hov hun hv hv0
      rw [e2] at hE hIV
      by_cases p1 : 8 < (b.getD (Int.toNat 0) 0).toNat - 128
      · rw [if_pos p1] at hE
        rw [hE]
        refine Ok.of_vcC tt_ok Tryd.func41 rfl rfl (by show 1 ≤ _; decide) 0 (hlt_ok (by rfl)) fun c0 => ?_
        repeat' (first | (refine SS_ ?_) | (refine Seq.lit (by rfl) (by rfl) LT2_ ?_) | (refine VC.litT (by rfl) LTR_ ?_) | (refine VC.litF (by rfl) LFA_ ?_) | fail)
        all_goals ((refine retC_mk ([(2, .int .i64 0), (3, .int .i64 0), (4, .int .i64 2)]) ([]) 0 (Sim.less [] (by rfl) R_ R_) (retQ_ok (by rfl) ([]) (fun i av h => h) ⟨?_, ?_⟩)) <;> rfl)
      rw [if_neg p1] at hE
      by_cases p2 : b.length ≤ (b.getD (Int.toNat 0) 0).toNat - 128
      · rw [if_pos p2] at hE
        rw [hE]
        refine Ok.of_vcC tt_ok Tryd.func41 rfl rfl (by show 1 ≤ _; decide) 0 (hlt_ok (by rfl)) fun c0 => ?_
        repeat' (first | (refine SS_ ?_) | (refine Seq.lit (by rfl) (by rfl) LT2_ ?_) | (refine VC.litT (by rfl) LTR_ ?_) | (refine VC.litF (by rfl) LFA_ ?_) | fail)
        all_goals ((refine retC_mk ([(2, .int .i64 0), (3, .int .i64 0), (4, .int .i64 3)]) ([]) 0 (Sim.less [] (by rfl) R_ R_) (retQ_ok (by rfl) ([]) (fun i av h => h) ⟨?_, ?_⟩)) <;> rfl)
      rw [if_neg p2] at hE
      replace hIV := hIV (by omega) (by omega)
      obtain ⟨K, hK⟩ : ∃ K, K = (b.getD (Int.toNat 0) 0).toNat - 128 := ⟨_, rfl⟩
      rw [← hK] at hE p1 p2 hIV
      replace hv : ∀ i, _ := fun i => (hv i).trans (congrArg (Wire.valI 0 b i * 256 + ·) (congrArg UInt8.toNat (Wire.xor0 _)))
      generalize Wire.valI 0 b = V at *
      have c2 := same_ok false false (Wire.int (Wire.neg (b.getD (Int.toNat 0) 0) (V K))) (b.take (K + 1)) (by have := Wire.int_length (Wire.neg (b.getD (Int.toNat 0) 0) (V K)); omega) (by rw [List.length_take]; omega)
      unfold Wire.neg at c2 hE hIV
      rw [if_neg hs] at c2 hE hIV
      refine Ok.of_vcC tt_ok Tryd.func41 rfl rfl (by show 1 ≤ _; decide) 0 (hlt_ok (by rfl)) fun c0 => ?_
      repeat' (first | (refine SS_ ?_) | (refine Seq.lit (by rfl) (by rfl) LT2_ ?_) | (refine VC.litF (by rfl) LFA_ ?_) | fail)
      refine VC.loop (fun j : Nat => ⟨[(8, .int .i64 ((j + 1 : Nat) : Int)), (7, .int .i64 (V j : Nat)), (5, .int .i64 ((b.getD (Int.toNat 0) 0).toNat : Nat)), (6, .int .i64 (K : Nat)), (0, bytesA fr b)], [], [], 0⟩) (fun j => j ≤ K ∧ V j < 9223372036854775808) (fun j => K - j) 0 ⟨by omega, by omega⟩ (Sim.less [] (by rfl) R_ R_) fun j hj => ?_
      obtain ⟨hj1, hj2⟩ := hj
      by_cases hjk : j < K
      · have ej : (b.getD ((j + 1 : Nat) : Int).toNat 0).toNat = (b.getD (j + 1) 0).toNat := by rw [Int.toNat_natCast]
        have hd := (b.getD (j + 1) 0).toNat_lt
        have hvj := hv j
        by_cases hg : 36028797018963967 < V j
        · have hE2 : Wire.getI b = (0, 0, 2) := by
            rw [hE, if_pos (hov hjk hg)]
            split <;> rfl
          rw [hE2]
          repeat' (first | (refine SS_ ?_) | (refine VC.litT (by rfl) LTR_ ?_) | (refine VC.litF (by rfl) LFA_ ?_) | fail)
          (refine retC_mk ([(2, .int .i64 0), (3, .int .i64 0), (4, .int .i64 2)]) ([]) 0 (Sim.less [] (by rfl) R_ R_) (retQ_ok (by rfl) ([]) (fun i av h => h) ⟨?_, ?_⟩)) <;> rfl
        · have hu := hun hg
          repeat' (first | (refine SS_ ?_) | (refine VC.litT (by rfl) LTR_ ?_) | (refine VC.litF (by rfl) LFA_ ?_) | fail)
          refine ⟨j + 1, ⟨by omega, hu⟩, by omega, ?_⟩
          exact (Sim.less [] (by rfl) R_ R_)
      · obtain rfl : j = K := by omega
        have c1 := refInt_ok ((V j : Nat) : Int) ⟨by omega, by omega⟩
        have hE3 : ¬ 9223372036854775808 ≤ V j := by omega
        rw [if_neg hE3] at hE
        generalize hw : Wire.int ((V j : Nat) : Int) = w at *
        by_cases hpp : (0 < j ∧ (b.getD 1 0 ^^^ 0).toNat = 0)
        · rw [if_pos hpp] at hE
          rw [show decide (w = b.take (j + 1)) = false from decide_eq_false fun e => hIV.1 e hpp] at c2
          rw [hE]
          repeat' (first | (refine SS_ ?_) | (refine VC.drawm (id := 24) [(0, 0), (1, 1), (2, 0), (3, 0), (4, 8), (5, 28), (6, 63), (7, 127)] [] (by rfl) (by kernel_rfl) (by rfl) ?_) | (refine VC.litT (by rfl) LTR_ ?_) | (refine VC.litF (by rfl) LFA_ ?_) | (refine DD_ ?_) | (refine DSeq.callq false (c1) Tryd.func30 GG_ SG_ (by rfl) (fastE (by rfl)) (fastH (by rfl)) (by rfl) rfl rfl rfl (by rfl) (by rfl) VW_ NI_ NI_ FR_ ?_) | (refine DSeq.callq false (c2) Tryd.func58 GG_ SG_ (by rfl) (fastE (by rfl)) (fastH (by rfl)) (by rfl) rfl rfl rfl (by rfl) (by rfl) VW_ NI_ NI_ FR_ ?_) | fail)
          (refine retC_mk ([(2, .int .i64 0), (3, .int .i64 0), (4, .int .i64 2)]) ([]) 0 (Sim.less [] (by rfl) R_ R_) (retQ_ok (by rfl) ([]) (fun i av h => h) ⟨?_, ?_⟩)) <;> rfl
        · rw [if_neg hpp] at hE
          rw [show decide (w = b.take (j + 1)) = true from decide_eq_true (hIV.2 hpp)] at c2
          rw [hE]
          repeat' (first | (refine SS_ ?_) | (refine VC.drawm (id := 24) [(0, 0), (1, 1), (2, 0), (3, 0), (4, 8), (5, 28), (6, 63), (7, 127)] [] (by rfl) (by kernel_rfl) (by rfl) ?_) | (refine VC.litF (by rfl) LFA_ ?_) | (refine DD_ ?_) | (refine DSeq.callq false (c1) Tryd.func30 GG_ SG_ (by rfl) (fastE (by rfl)) (fastH (by rfl)) (by rfl) rfl rfl rfl (by rfl) (by rfl) VW_ NI_ NI_ FR_ ?_) | (refine DSeq.callq false (c2) Tryd.func58 GG_ SG_ (by rfl) (fastE (by rfl)) (fastH (by rfl)) (by rfl) rfl rfl rfl (by rfl) (by rfl) VW_ NI_ NI_ FR_ ?_) | fail)
          (refine retC_mk ([(2, .int .i64 ((V j : Nat) : Int)), (3, .int .i64 ((j : Nat) + 1)), (4, .int .i64 0)]) ([]) 0 (Sim.less [] (by rfl) R_ R_) (retQ_ok (by rfl) ([]) (fun i av h => h) ⟨?_, ?_⟩)) <;> rfl
end Go.Proofs.YthejnchhddggmaaDoor
