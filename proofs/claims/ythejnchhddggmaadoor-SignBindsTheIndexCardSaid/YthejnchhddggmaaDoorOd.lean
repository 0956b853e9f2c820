
/- The reference's Verify: a signature of the right form. -/
import Derived.Test.YthejnchhddggmaaDoorNo
set_option linter.unusedSimpArgs false
set_option linter.unusedVariables false
namespace Go.Proofs.YthejnchhddggmaaDoor
open Go.V Go.RowKit Go.U Go.L Go.Lx Go.Sg
set_option maxRecDepth 10000
set_option maxHeartbeats 4000000
theorem valR_take (R : List UInt8) (k : Nat) (h : (k + 1) * 16 ≤ R.length) : (R.drop (16 * k)).take 16 = valR R k := by
  have hl : ((R.drop (16 * k)).take 16).length = 16 := by rw [List.length_take, List.length_drop]; omega
  refine bytes_eq (by rw [hl, valR_length]) fun j hj => ?_
  rw [valR_get _ _ _ (by omega), List.getD_eq_getElem?_getD, List.getElem?_take_of_lt (by omega), List.getElem?_drop, ← List.getD_eq_getElem?_getD]
theorem rver_core (P : List UInt8) (hP : P.length = 16) (h : Nat) (hh : h ≤ 6) (msg S : List UInt8) (hm : msg.length ≤ 1048576) (hS : S.length ≤ 10000000) (n u : Nat) (hg : Wire.getI S = ((n : Int), (u : Int), 0)) (hu : u ≤ S.length) (hn : n < 2 ^ h) (hl : (S.drop u).length = (68 + h) * 16) :
    Ok Tryd.prog 19 gR [] (.pair (digA P) (.pair (.int .i64 (h : Nat)) (.pair (.str msg) (.pair (.str S) .nul)))) (fun r h' => r = (if upV n (msgD P (n : Nat) msg) (S.drop u) h = P then .tup (.pair (.int .i64 (n : Nat)) (.pair (.int .i64 0) .nul)) else errV 10) ∧ h' = []) := by
  have h64 : 2 ^ h ≤ 2 ^ 6 := Nat.pow_le_pow_right (by decide) hh
  have e64 : (2 : Nat) ^ 6 = 64 := by decide
  have hsh := shl_i64 (d := h) (by omega)
  have c1 := refGet_ok false S (by omega)
  rw [hg, show giT ((n : Int), (u : Int), 0) = .tup (.pair (.int .i64 (n : Nat)) (.pair (.int .i64 (u : Nat)) (.pair (.int .i64 0) .nul))) from rfl] at c1
  have c2 := rDigest_ok P hP (n : Nat) ⟨by omega, by omega⟩ msg (by omega)
  have c3 := rDigits_ok (msgD P (n : Nat) msg) (msgD_length _ _ _)
  have hup := upV_length n (msgD P (n : Nat) msg) (S.drop u)
  have hus : ∀ k, upV n (msgD P (n : Nat) msg) (S.drop u) (k + 1) = if n / 2 ^ k % 2 = 1 then nodeD (valR (S.drop u) (68 + k)) (upV n (msgD P (n : Nat) msg) (S.drop u) k) else nodeD (upV n (msgD P (n : Nat) msg) (S.drop u) k) (valR (S.drop u) (68 + k)) := fun k => rfl
  have hup0 : upV n (msgD P (n : Nat) msg) (S.drop u) 0 = leafV (valQ (n : Nat) (msgD P (n : Nat) msg) (S.drop u)) := rfl
  generalize upV n (msgD P (n : Nat) msg) (S.drop u) = U at *
  have hVl := fun c => valQ_length (n : Nat) (msgD P (n : Nat) msg) (S.drop u) c
  have hvs : ∀ c, valQ (n : Nat) (msgD P (n : Nat) msg) (S.drop u) c = advN (n : Nat) (c : Nat) (dig (msgD P (n : Nat) msg) c) (3 - dig (msgD P (n : Nat) msg) c).toNat (valR (S.drop u) c) := fun c => rfl
  generalize valQ (n : Nat) (msgD P (n : Nat) msg) (S.drop u) = V at *
  have hcl := catV_length V hVl
  have hdl := dig_le (msgD P (n : Nat) msg)
  generalize msgD P (n : Nat) msg = D at *
  refine Ok.of_vcC tt_ok Tryd.func19 rfl rfl (by show 4 ≤ _; decide) 0 (hlt_ok (by rfl)) fun c0 => ?_
  have hR : (S.take S.length).drop ((u : Nat) : Int).toNat = S.drop u := by rw [List.take_length, Int.toNat_natCast]
  have hlr : ((S.take S.length).drop ((u : Nat) : Int).toNat).length = (68 + h) * 16 := by rw [hR]; exact hl
  repeat' (first | (refine SS_ ?_) | (refine Seq.lit (by rfl) (by rfl) LT2_ ?_) | (refine Seq.callq true (c1) Tryd.func41 GG_ SG_ (by rfl) rfl rfl rfl (by rfl) rfl VW_ NI_ NI_ FR_ ?_) | (refine Seq.callq true (c2) Tryd.func17 GG_ SG_ (by rfl) rfl rfl rfl (by rfl) rfl VW_ NI_ NI_ FR_ ?_) | (refine Seq.callq true (c3) Tryd.func11 GG_ SG_ (by rfl) rfl rfl rfl (by rfl) rfl VW_ NI_ NI_ FR_ ?_) | (refine VC.litF (by rfl) LFA_ ?_) | fail)
  rw [hR]
  clear hlr hR hg hu c1 c2 c3
  generalize S.drop u = R at *
  refine VC.loop (fun q : Nat => ⟨[(16, .int .i64 (q : Nat)), (15, .str (catV V q)), (14, .rsl true 68 1 (fun j => .int .i64 (dig D j))), (13, .str R), (10, .int .i64 (n : Nat)), (4, .ptr 0 []), (1, .int .i64 (h : Nat))], [(0, digA P)], gR, 1⟩) (fun q => q ≤ 68) (fun q => 68 - q) 0 (by omega) (by rw [show catV V 0 = [] from rfl]; exact (Sim.less [] (by rfl) R_ R_)) fun q hq => ?_
  have hLq := hcl q
  by_cases hqq : q < 68
  · have hdq := hdl q
    have e1 : ((R.take R.length).drop (16 * (q : Int)).toNat).take 16 = valR R q := by
      rw [List.take_length, show (16 * (q : Int)).toNat = 16 * q by omega]
      exact valR_take R q (by omega)
    have d1 := rdigest_ok ((R.take R.length).drop (16 * (q : Int)).toNat) (by rw [List.take_length, List.length_drop]; omega)
    rw [e1] at d1
    have d2 := radv_ok (n : Nat) (q : Nat) (dig D q) 3 (valR R q) (valR_length _ _) ⟨by omega, by omega⟩ ⟨by omega, by omega⟩ ⟨by omega, by omega, by omega⟩
    have e2 : (3 - dig D q).toNat = (3 - dig D q).toNat := rfl
    rw [← hvs q] at d2
    have hv := hVl q
    have d3 := textD_ok (V q) hv
    have e3 := catV_succ V q
    generalize hY : catV V (q + 1) = Y at *
    generalize V q = v at *
    generalize valR R q = X at *
    repeat' (first | (refine SS_ ?_) | (refine VC.drawm (id := 16) [(0, 0), (1, 0), (2, 0), (3, 0), (4, 0), (5, 24), (6, 56), (7, 0), (8, 0), (9, 256), (10, 896), (11, 1920), (12, 4094), (13, 8190), (14, 16383)] [15] (by rfl) (by kernel_rfl) (by rfl) ?_) | (refine VC.litT (by rfl) LTR_ ?_) | (refine DD_ ?_) | (refine DSeq.callq false (d1) Tryd.func42 GG_ SG_ (by rfl) (fastE (by rfl)) (fastH (by rfl)) (by rfl) rfl rfl rfl (by rfl) (by rfl) VW_ NI_ NI_ FR_ ?_) | (refine DSeq.callq false (d2) Tryd.func32 GG_ SG_ (by rfl) (fastE (by rfl)) (fastH (by rfl)) (by rfl) rfl rfl rfl (by rfl) (by rfl) VW_ NI_ NI_ FR_ ?_) | (refine DSeq.callq true (d3) Tryd.func31 GG_ SG_ (by rfl) (fastE (by rfl)) (fastH (by rfl)) (by rfl) rfl rfl rfl (by rfl) (by rfl) VW_ NI_ NI_ FR_ ?_) | fail)
    refine ⟨q + 1, by omega, by omega, ?_⟩
    rw [hY, e3]
    exact (Sim.less [] (by rfl) R_ R_)
  · obtain rfl : q = 68 := by omega
    have c4 := refOfD_ok 3 [catV V 68] (by decide) (by simp) (by have := parts1_len (catV V 68); omega)
    have hK : (digD 3 [catV V 68]).length = 16 := digD_length _ _
    have c5 := textD_ok (digD 3 [catV V 68]) hK
    have c6 := refOfD_ok 1 [digD 3 [catV V 68]] (by decide) (by simp) (by have := parts1_len (digD 3 [catV V 68]); omega)
    rw [show digD 1 [digD 3 [catV V 68]] = leafV V from rfl, ← hup0] at c6
    generalize digD 3 [catV V 68] = Y at *
    generalize catV V 68 = X at *
    repeat' (first | (refine SS_ ?_) | (refine Seq.callq true (c4) Tryd.func35 GG_ SG_ (by rfl) rfl rfl rfl (by rfl) rfl VW_ NI_ NI_ FR_ ?_) | (refine Seq.callq true (c5) Tryd.func31 GG_ SG_ (by rfl) rfl rfl rfl (by rfl) rfl VW_ NI_ NI_ FR_ ?_) | (refine Seq.callq true (c6) Tryd.func35 GG_ SG_ (by rfl) rfl rfl rfl (by rfl) rfl VW_ NI_ NI_ FR_ ?_) | (refine VC.litF (by rfl) LFA_ ?_) | fail)
    refine VC.loop (fun q : Nat => ⟨[(20, .int .i64 (q : Nat)), (19, .int .i64 ((n / 2 ^ q : Nat) : Int)), (18, .ptr 4 []), (13, .str R), (10, .int .i64 (n : Nat)), (4, .ptr 0 []), (1, .int .i64 (h : Nat))], [(4, digA (U q)), (0, digA P)], gR, 5⟩) (fun q => q ≤ h) (fun q => h - q) 0 (Nat.zero_le _) (by rw [Nat.pow_zero, Nat.div_one]; exact (Sim.less [] (by rfl) R_ R_)) fun q hq => ?_
    by_cases hqh : q < h
    · have e1 : ((R.take R.length).drop (16 * (68 + (q : Int))).toNat).take 16 = valR R (68 + q) := by
        rw [List.take_length, show (16 * (68 + (q : Int))).toNat = 16 * (68 + q) by omega]
        exact valR_take R (68 + q) (by omega)
      have d1 := rdigest_ok ((R.take R.length).drop (16 * (68 + (q : Int))).toNat) (by rw [List.take_length, List.length_drop]; omega)
      rw [e1] at d1
      have hv := valR_length R (68 + q)
      have hx := hup q
      have hus := hus q
      have hn2 : n / 2 ^ (q + 1) = n / 2 ^ q / 2 := by rw [Nat.pow_succ, Nat.div_div_eq_div_mul]
      have hn3 : n / 2 ^ q ≤ n := Nat.div_le_self _ _
      generalize hN2 : n / 2 ^ (q + 1) = N2 at *
      generalize n / 2 ^ q = N1 at *
      by_cases hb : N1 % 2 = 1
      · have d2 := rnode_ok (valR R (68 + q)) (U q) hv hx
        rw [if_pos hb] at hus
        rw [← hus] at d2
        generalize valR R (68 + q) = v at *
        generalize hY : U (q + 1) = Y2 at *
        generalize U q = X2 at *
        repeat' (first | (refine SS_ ?_) | (refine Seq.callq false (d1) Tryd.func42 GG_ SG_ (by rfl) rfl rfl rfl (by rfl) rfl VW_ NI_ NI_ FR_ ?_) | (refine Seq.callq false (d2) Tryd.func43 GG_ SG_ (by rfl) rfl rfl rfl (by rfl) rfl VW_ NI_ NI_ FR_ ?_) | (refine VC.litT (by rfl) LTR_ ?_) | fail)
        refine ⟨q + 1, by omega, by omega, ?_⟩
        rw [hY, hN2]
        exact (Sim.less [] (by rfl) R_ R_)
      · have d2 := rnode_ok (U q) (valR R (68 + q)) hx hv
        rw [if_neg hb] at hus
        rw [← hus] at d2
        generalize valR R (68 + q) = v at *
        generalize hY : U (q + 1) = Y2 at *
        generalize U q = X2 at *
        repeat' (first | (refine SS_ ?_) | (refine Seq.callq false (d1) Tryd.func42 GG_ SG_ (by rfl) rfl rfl rfl (by rfl) rfl VW_ NI_ NI_ FR_ ?_) | (refine Seq.callq false (d2) Tryd.func43 GG_ SG_ (by rfl) rfl rfl rfl (by rfl) rfl VW_ NI_ NI_ FR_ ?_) | (refine VC.litT (by rfl) LTR_ ?_) | (refine VC.litF (by rfl) LFA_ ?_) | fail)
        refine ⟨q + 1, by omega, by omega, ?_⟩
        rw [hY, hN2]
        exact (Sim.less [] (by rfl) R_ R_)
    · obtain rfl : q = h := by omega
      have hx := hup q
      by_cases he : U q = P
      · rw [if_pos he, he]
        repeat' (first | (refine SS_ ?_) | (refine Seq.nearr (false) tt_ok (by rfl) (by rfl) (by rfl) (by kernel_rfl) (by rfl) (by rfl) (by rfl) rfl ⟨fun _ i hi => rfl, fun _ => rfl⟩ ?_) | (refine VC.litF (by rfl) LFA_ ?_) | fail)
        (refine retC_mk ([(8, .int .i64 (n : Nat)), (9, .int .i64 0)]) ([]) 5 (Sim.less [] (by rfl) R_ R_) (retQ_ok (by rfl) ([]) (fun i av h => h) ⟨?_, ?_⟩)) <;> rfl
      · rw [if_neg he]
        have hne : ¬ ∀ i, i < 16 → ((((U q).getD i 0).toNat : Nat) : Int) = (((P.getD i 0).toNat : Nat) : Int) := fun hh => he ((digA_eq hx hP).1 hh)
        generalize U q = X2 at *
        repeat' (first | (refine SS_ ?_) | (refine Seq.nearr (true) tt_ok (by rfl) (by rfl) (by rfl) (by kernel_rfl) (by rfl) (by rfl) (by rfl) rfl ⟨fun e => (by cases e), fun e => (hne e).elim⟩ ?_) | (refine VC.litT (by rfl) LTR_ ?_) | (refine VC.litF (by rfl) LFA_ ?_) | fail)
        (refine retC_mk ([(8, .int .i64 0), (9, .int .i64 10)]) ([]) 5 (Sim.less [] (by rfl) R_ R_) (retQ_ok (by rfl) ([]) (fun i av h => h) ⟨?_, ?_⟩)) <;> rfl
end Go.Proofs.YthejnchhddggmaaDoor
