
/- sign.Verify, whole. -/
import Derived.Test.YthejnchhddggmaaDoorNm
set_option linter.unusedSimpArgs false
set_option linter.unusedVariables false
namespace Go.Proofs.YthejnchhddggmaaDoor
open Go.V Go.RowKit Go.U Go.L Go.Lx Go.Sg
set_option maxRecDepth 10000
set_option maxHeartbeats 4000000
/-- The node that a signature leads to, level by level. -/
def upV (n : Nat) (D R : List UInt8) : Nat → List UInt8
  | 0 => leafV (valQ (n : Nat) D R)
  | k + 1 => if n / 2 ^ k % 2 = 1 then nodeD (valR R (68 + k)) (upV n D R k) else nodeD (upV n D R k) (valR R (68 + k))
theorem upV_length (n : Nat) (D R : List UInt8) : ∀ k, (upV n D R k).length = 16
  | 0 => leafV_length _
  | k + 1 => by unfold upV; split <;> exact digD_length _ _
theorem digA_eq {a b : List UInt8} (ha : a.length = 16) (hb : b.length = 16) : (∀ i, i < 16 → (((a.getD i 0).toNat : Nat) : Int) = ((b.getD i 0).toNat : Nat)) ↔ a = b := by
  constructor
  · intro h
    refine bytes_eq (by omega) fun i hi => ?_
    have := h i (by omega)
    exact UInt8.toNat_inj.1 (by omega)
  · rintro rfl i _; rfl
theorem bits_and1 (n q : Nat) (hn : n < 1000) (hq : q ≤ 6) : bits .and .i64 (((n : Nat) : Int).fdiv (2 ^ min ((q : Nat) : Int).toNat IntKind.i64.bits)) 1 = ((n / 2 ^ q % 2 : Nat) : Int) := by
  have e1 : min ((q : Nat) : Int).toNat IntKind.i64.bits = q := by show min _ 64 = _; omega
  rw [e1, fdiv_pow]
  have h1 : n / 2 ^ q < 1000 := Nat.lt_of_le_of_lt (Nat.div_le_self _ _) hn
  generalize n / 2 ^ q = x at *
  show IntKind.i64.wrap (((BitVec.ofInt 64 ((x : Nat) : Int)) &&& (BitVec.ofInt 64 1)).toNat : Int) = _
  rw [ofInt_nat, show BitVec.ofInt 64 1 = BitVec.ofNat 64 1 from rfl, BitVec.toNat_and, BitVec.toNat_ofNat, BitVec.toNat_ofNat, Nat.mod_eq_of_lt (by omega), Nat.mod_eq_of_lt (by decide), Nat.and_one_is_mod, IntKind.wrap_i64]
  omega
def errV (e : Int) : AV := .tup (.pair (.int .i64 0) (.pair (.int .i64 e) .nul))
theorem ver_core (P : List UInt8) (hP : P.length = 16) (h : Nat) (hh : h ≤ 6) (msg S : List UInt8) (hm : msg.length ≤ 1048576) (hS : S.length ≤ 10000000) (n u : Nat) (hg : Wire.getI S = ((n : Int), (u : Int), 0)) (hu : u ≤ S.length) (hn : n < 2 ^ h) (hl : (S.drop u).length = (68 + h) * 16) :
    Ok Tryd.prog 18 gK [] (.pair (digA P) (.pair (.int .i64 (h : Nat)) (.pair (.str msg) (.pair (.str S) .nul)))) (fun r h' => r = (if upV n (msgD P (n : Nat) msg) (S.drop u) h = P then .tup (.pair (.int .i64 (n : Nat)) (.pair (.int .i64 0) .nul)) else errV 10) ∧ h' = []) := by
  have h64 : 2 ^ h ≤ 2 ^ 6 := Nat.pow_le_pow_right (by decide) hh
  have e64 : (2 : Nat) ^ 6 = 64 := by decide
  have cv := svalid_ok h
  rw [decide_eq_true (⟨by omega, by omega⟩ : 0 ≤ (h : Int) ∧ (h : Int) ≤ 6)] at cv
  have hsh := shl_i64 (d := h) (by omega)
  have c1 := wireGet_ok false S (by omega)
  rw [hg, show giT ((n : Int), (u : Int), 0) = .tup (.pair (.int .i64 (n : Nat)) (.pair (.int .i64 (u : Nat)) (.pair (.int .i64 0) .nul))) from rfl] at c1
  have c2 := sDigest_ok P hP (n : Nat) ⟨by omega, by omega⟩ msg (by omega)
  have c3 := sDigits_ok (msgD P (n : Nat) msg) (msgD_length _ _ _)
  have c4 := leafQ_ok (n : Nat) ⟨by omega, by omega⟩ (msgD P (n : Nat) msg) (S.drop u) (by omega) (by omega)
  generalize msgD P (n : Nat) msg = D at *
  refine Ok.of_vcC tt_ok Tryd.func18 rfl rfl (by show 4 ≤ _; decide) 0 (hlt_ok (by rfl)) fun c0 => ?_
  repeat' (first | (refine SS_ ?_) | (refine Seq.callq false (cv) Tryd.func21 GG_ SG_ (by rfl) rfl rfl rfl (by rfl) rfl VW_ NI_ NI_ FR_ ?_) | (refine Seq.callq true (c1) Tryd.func36 GG_ SG_ (by rfl) rfl rfl rfl (by rfl) rfl VW_ NI_ NI_ FR_ ?_) | (refine VC.litF (by rfl) LFA_ ?_) | fail)
  refine V.Seq.same 38 (u' := .str (S.drop u)) (by rfl) (congrArg AV.str ?_) ?_
  · rw [List.take_length, Int.toNat_natCast]
  have hup := upV_length n D (S.drop u)
  have hup0 : upV n D (S.drop u) 0 = leafV (valQ (n : Nat) D (S.drop u)) := rfl
  rw [← hup0] at c4
  generalize S.drop u = R at *
  repeat' (first | (refine SS_ ?_) | (refine VC.drawm (id := 9) [(0, 0), (1, 1), (2, 3), (3, 7), (4, 7), (5, 23), (6, 63), (7, 127), (8, 255), (9, 511), (10, 1023), (11, 511), (12, 2559), (13, 6655), (14, 16383), (15, 32767)] [] (by rfl) (by kernel_rfl) (by rfl) ?_) | (refine Seq.callq true (c2) Tryd.func16 GG_ SG_ (by rfl) rfl rfl rfl (by rfl) rfl VW_ NI_ NI_ FR_ ?_) | (refine Seq.callq true (c3) Tryd.func10 GG_ SG_ (by rfl) rfl rfl rfl (by rfl) rfl VW_ NI_ NI_ FR_ ?_) | (refine VC.litF (by rfl) LFA_ ?_) | (refine DD_ ?_) | (refine DSeq.lit2 (by rfl) (by rfl) (by rfl) LT2_ (by rfl) ?_) | fail)
  refine V.Seq.conv (Sim.stillN (e' := [(62, .fn (.func 39) .nul (capQ (n : Nat) D R)), (14, .rptr false (.fn (.func 37) .nul (cap1 R))), (10, .rptr false (.int .i64 (n : Nat))), (4, .ptr 0 []), (1, .int .i64 (h : Nat))]) (h' := [(0, digA P)]) [1, 2, 3, 4] (by rfl) (HeapN.cons (by rfl) (.rel R_) (by rfl) HeapN.nil)
    (EnvN.cons (by rfl) (.fn (.rel R_) (.pair (.ptr (by rfl) (by rfl) (by exact trivial) (by rfl) (by rfl) (.rel R_)) (.pair (.ptr (by rfl) (by rfl) (by exact trivial) (by rfl) (by rfl) (.rel R_)) (.pair (.ptr (by rfl) (by rfl) (by exact trivial) (by rfl) (by rfl) (.fn (.rel R_) (.pair (.ptr (by rfl) (by rfl) (by exact trivial) (by rfl) (by rfl) (.rel R_)) (.rel R_)))) (.rel R_)))))
    (EnvN.cons (by rfl) (.ptr (by rfl) (by rfl) (by exact trivial) (by rfl) (by rfl) (.fn (.rel R_) (.pair (.ptr (by rfl) (by rfl) (by exact trivial) (by rfl) (by rfl) (.rel R_)) (.rel R_))))
    (EnvN.cons (by rfl) (.ptr (by rfl) (by rfl) (by exact trivial) (by rfl) (by rfl) (.rel R_)) (EnvN.cons (by rfl) (.rel R_) (EnvN.cons (by rfl) (.rel R_) EnvN.nil)))))) ?_
  repeat' (first | (refine SS_ ?_) | (refine Seq.callp false (c4) Tryd.func38 gK_ok subG.refl (by rfl) (by rfl) rfl rfl rfl rfl rfl (by rfl) rfl VW_ NI_ NI_ FR_ ?_) | fail)
  have hus : ∀ k, upV n D R (k + 1) = if n / 2 ^ k % 2 = 1 then nodeD (valR R (68 + k)) (upV n D R k) else nodeD (upV n D R k) (valR R (68 + k)) := fun k => rfl
  generalize hU : upV n D R = U at *
  refine VC.loop (fun q : Nat => ⟨[(65, .int .i64 (q : Nat)), (64, .int .i64 (h : Nat)), (16, .ptr 5 []), (14, .rptr false (.fn (.func 37) .nul (cap1 R))), (10, .rptr false (.int .i64 (n : Nat))), (4, .ptr 0 [])], [(5, digA (U q)), (0, digA P)], gK, 6⟩) (fun q => q ≤ h) (fun q => h - q) 0 (Nat.zero_le _) (Sim.less [] (by rfl) R_ R_) fun q hq => ?_
  by_cases hqh : q < h
  · have hba := bits_and1 n q (by omega) (by omega)
    have d1 := val1_ok R (68 + q) (by omega) (by omega)
    have hv := valR_length R (68 + q)
    have hx := hup q
    have hus := hus q
    by_cases hb : n / 2 ^ q % 2 = 1
    · have d2 := snode_ok (valR R (68 + q)) (U q) hv hx
      rw [if_pos hb] at hus
      rw [← hus] at d2
      rw [hb] at hba
      generalize valR R (68 + q) = v at *
      generalize hY : U (q + 1) = Y at *
      generalize U q = X at *
      repeat' (first | (refine SS_ ?_) | (refine VC.drawm (id := 18) [(0, 0), (1, 0), (2, 2), (3, 7), (4, 0), (5, 31)] [6] (by rfl) (by kernel_rfl) (by rfl) ?_) | (refine DSeq.callp false (d1) Tryd.func37 gK_ok subG.nil (by rfl) (fastE (by rfl)) (fastH (by rfl)) (by rfl) (by rfl) rfl rfl rfl rfl rfl (by rfl) (by rfl) VW_ NI_ NI_ FR_ ?_) | (refine VC.litT (by rfl) LTR_ ?_) | (refine DD_ ?_) | (refine DSeq.callq false (d2) Tryd.func40 GG_ SG_ (by rfl) (fastE (by rfl)) (fastH (by rfl)) (by rfl) rfl rfl rfl (by rfl) (by rfl) VW_ NI_ NI_ FR_ ?_) | fail)
      refine ⟨q + 1, by omega, by omega, ?_⟩
      rw [hY]
      exact (Sim.less [] (by rfl) R_ R_)
    · have d2 := snode_ok (U q) (valR R (68 + q)) hx hv
      rw [if_neg hb] at hus
      rw [← hus] at d2
      have hb2 : n / 2 ^ q % 2 = 0 := by omega
      rw [hb2] at hba
      generalize valR R (68 + q) = v at *
      generalize hY : U (q + 1) = Y at *
      generalize U q = X at *
      repeat' (first | (refine SS_ ?_) | (refine VC.drawm (id := 19) [(0, 0), (1, 0), (2, 0), (3, 4), (4, 14), (5, 31)] [6] (by rfl) (by kernel_rfl) (by rfl) ?_) | (refine DSeq.callp false (d1) Tryd.func37 gK_ok subG.nil (by rfl) (fastE (by rfl)) (fastH (by rfl)) (by rfl) (by rfl) rfl rfl rfl rfl rfl (by rfl) (by rfl) VW_ NI_ NI_ FR_ ?_) | (refine VC.litT (by rfl) LTR_ ?_) | (refine VC.litF (by rfl) LFA_ ?_) | (refine DD_ ?_) | (refine DSeq.callq false (d2) Tryd.func40 GG_ SG_ (by rfl) (fastE (by rfl)) (fastH (by rfl)) (by rfl) rfl rfl rfl (by rfl) (by rfl) VW_ NI_ NI_ FR_ ?_) | fail)
      refine ⟨q + 1, by omega, by omega, ?_⟩
      rw [hY]
      exact (Sim.less [] (by rfl) R_ R_)
  · obtain rfl : q = h := by omega
    have hx := hup q
    by_cases he : U q = P
    · rw [if_pos he, he]
      repeat' (first | (refine SS_ ?_) | (refine Seq.nearr (false) tt_ok (by rfl) (by rfl) (by rfl) (by kernel_rfl) (by rfl) (by rfl) (by rfl) rfl ⟨fun _ i hi => rfl, fun _ => rfl⟩ ?_) | (refine VC.litF (by rfl) LFA_ ?_) | fail)
      (refine retC_mk ([(8, .int .i64 (n : Nat)), (9, .int .i64 0)]) ([]) 8 (Sim.less [] (by rfl) R_ R_) (retQ_ok (by rfl) ([]) (fun i av h => h) ⟨?_, ?_⟩)) <;> rfl
    · rw [if_neg he]
      have hne : ¬ ∀ i, i < 16 → ((((U q).getD i 0).toNat : Nat) : Int) = (((P.getD i 0).toNat : Nat) : Int) := fun hh => he ((digA_eq hx hP).1 hh)
      generalize U q = X at *
      repeat' (first | (refine SS_ ?_) | (refine Seq.nearr (true) tt_ok (by rfl) (by rfl) (by rfl) (by kernel_rfl) (by rfl) (by rfl) (by rfl) rfl ⟨fun e => (by cases e), fun e => (hne e).elim⟩ ?_) | (refine VC.litT (by rfl) LTR_ ?_) | (refine VC.litF (by rfl) LFA_ ?_) | fail)
      (refine retC_mk ([(8, .int .i64 0), (9, .int .i64 10)]) ([]) 8 (Sim.less [] (by rfl) R_ R_) (retQ_ok (by rfl) ([]) (fun i av h => h) ⟨?_, ?_⟩)) <;> rfl
end Go.Proofs.YthejnchhddggmaaDoor
