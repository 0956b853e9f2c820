
/- sign.Sign. -/
import Derived.Test.YthejnchhddggmaaDoorNk
set_option linter.unusedSimpArgs false
set_option linter.unusedVariables false
namespace Go.Proofs.YthejnchhddggmaaDoor
open Go.V Go.RowKit Go.U Go.L Go.Lx Go.Sg
set_option maxRecDepth 10000
set_option maxHeartbeats 4000000
def errS (e : Int) : AV := .tup (.pair (.str []) (.pair (.int .i64 e) .nul))
/-- The number beside a node's ancestor at a level. -/
def sib (i l : Nat) : Nat := i / 2 ^ l ^^^ 1
/-- The value of a chain in a signature. -/
def valS (seed : List UInt8) (i : Nat) (d : List UInt8) (c : Nat) : List UInt8 := advN i c 0 (dig d c).toNat (startD seed i c)
theorem valS_length (seed : List UInt8) (i : Nat) (d : List UInt8) (c : Nat) : (valS seed i d c).length = 16 := advN_length _ _ _ _ (startD_length _ _ _) _
def sigB (seed : List UInt8) (h i : Nat) (m : List UInt8) : List UInt8 := Wire.int (i : Nat) ++ catV (valS seed i (msgD (ndD seed h 0) (i : Nat) m)) 68 ++ catV (fun l => ndD seed l (sib i l : Nat)) h
theorem xor_one (x : Nat) (hx : x < 1000) : x ^^^ 1 ≤ x + 1 ∧ x ^^^ 1 < 1024 := by
  have h : ∀ y : Fin 1000, y.val ^^^ 1 ≤ y.val + 1 ∧ y.val ^^^ 1 < 1024 := by decide +kernel
  exact h ⟨x, hx⟩
theorem xor_lt {x n : Nat} (h : x < 2 ^ (n + 1)) : x ^^^ 1 < 2 ^ (n + 1) := Nat.xor_lt_two_pow h (by have := Nat.one_lt_two_pow (n := n + 1) (by omega); omega)
theorem bits_xor1 (i q : Nat) (hi : i < 1000) (hq : q ≤ 6) : bits .xor .i64 (((i : Nat) : Int).fdiv (2 ^ min ((q : Nat) : Int).toNat IntKind.i64.bits)) 1 = ((sib i q : Nat) : Int) := by
  have e1 : min ((q : Nat) : Int).toNat IntKind.i64.bits = q := by show min _ 64 = _; omega
  rw [e1, fdiv_pow]
  have h1 : i / 2 ^ q < 1000 := Nat.lt_of_le_of_lt (Nat.div_le_self _ _) hi
  unfold sib
  generalize i / 2 ^ q = x at *
  have h2 := xor_one x h1
  show IntKind.i64.wrap (((BitVec.ofInt 64 ((x : Nat) : Int)) ^^^ (BitVec.ofInt 64 1)).toNat : Int) = _
  rw [ofInt_nat, show BitVec.ofInt 64 1 = BitVec.ofNat 64 1 from rfl, BitVec.toNat_xor, BitVec.toNat_ofNat, BitVec.toNat_ofNat, Nat.mod_eq_of_lt (by omega), Nat.mod_eq_of_lt (by decide), IntKind.wrap_i64]
  omega
theorem sib_ok {h i l : Nat} (hh : h ≤ 6) (hi : i < 2 ^ h) (hl : l < h) : (((sib i l : Nat) : Int) + 1) * 2 ^ l ≤ 128 := by
  have h1 : i / 2 ^ l < 2 ^ (h - l) := by
    rw [Nat.div_lt_iff_lt_mul (Nat.pow_pos (by decide)), ← Nat.pow_add, Nat.sub_add_cancel (by omega)]; exact hi
  obtain ⟨n, e⟩ : ∃ n, h - l = n + 1 := ⟨h - l - 1, by omega⟩
  rw [e] at h1
  have h2 : sib i l + 1 ≤ 2 ^ (n + 1) := xor_lt h1
  have h3 : (sib i l + 1) * 2 ^ l ≤ 2 ^ (n + 1) * 2 ^ l := Nat.mul_le_mul_right _ h2
  rw [← e, ← Nat.pow_add, Nat.sub_add_cancel (by omega)] at h3
  have h4 : 2 ^ h ≤ 2 ^ 6 := Nat.pow_le_pow_right (by decide) hh
  have h5 : (((sib i l : Nat) : Int) + 1) * 2 ^ l = (((sib i l + 1) * 2 ^ l : Nat) : Int) := by push_cast; rfl
  rw [h5]
  have : (2 : Nat) ^ 6 = 64 := by decide
  omega
theorem sign_yes (seed : List UInt8) (hs : seed.length = 32) (h i : Nat) (hh : h ≤ 6) (hi : i < 2 ^ h) (msg : List UInt8) (hm : msg.length ≤ 1048576) : Ok Tryd.prog 14 gK [] (.pair (.str seed) (.pair (.int .i64 (h : Nat)) (.pair (.int .i64 (i : Nat)) (.pair (.str msg) .nul)))) (fun r h' => r = .tup (.pair (.str (sigB seed h i msg)) (.pair (.int .i64 0) .nul)) ∧ h' = []) := by
  have h64 : 2 ^ h ≤ 2 ^ 6 := Nat.pow_le_pow_right (by decide) hh
  have e64 : (2 : Nat) ^ 6 = 64 := by decide
  have cv := svalid_ok h
  rw [decide_eq_true (⟨by omega, by omega⟩ : 0 ≤ (h : Int) ∧ (h : Int) ≤ 6)] at cv
  have hsh := shl_i64 (d := h) (by omega)
  have c1 := nodes_ok seed
  have hp : ((0 : Int) + 1) * 2 ^ h ≤ 128 := by
    have e : ((2 ^ h : Nat) : Int) = 2 ^ h := by exact_mod_cast rfl
    omega
  have c2 := at_okN seed (by omega) h hh 0 ⟨by omega, hp⟩ [] (fun _ _ _ h => by cases h)
  have c3 := wireInt_ok (i : Nat) ⟨by omega, by omega⟩
  have hil := Wire.int_length (i : Nat)
  have hip := Wire.int_length_pos (i : Nat)
  have c5 := sDigest_ok (ndD seed h 0) (ndD_length _ _ _) (i : Nat) ⟨by omega, by omega⟩ msg (by omega)
  have c6 := sDigits_ok (msgD (ndD seed h 0) (i : Nat) msg) (msgD_length _ _ _)
  have hm1 := mAt_ok (seed := seed) h 0 [] (fun _ _ _ h => by cases h)
  have hcat := catV_length (valS seed i (msgD (ndD seed h 0) (i : Nat) msg)) (fun c => valS_length _ _ _ _)
  have hcat2 := catV_length (fun l => ndD seed l (sib i l : Nat)) (fun l => ndD_length _ _ _)
  have hSB : sigB seed h i msg = Wire.int (i : Nat) ++ catV (valS seed i (msgD (ndD seed h 0) (i : Nat) msg)) 68 ++ catV (fun l => ndD seed l (sib i l : Nat)) h := rfl
  generalize sigB seed h i msg = SB at *
  have hvs : ∀ c, valS seed i (msgD (ndD seed h 0) (i : Nat) msg) c = advN i c 0 (dig (msgD (ndD seed h 0) (i : Nat) msg) c).toNat (startD seed i c) := fun c => rfl
  have hvl := valS_length seed i (msgD (ndD seed h 0) (i : Nat) msg)
  have hdl := dig_le (msgD (ndD seed h 0) (i : Nat) msg)
  generalize valS seed i (msgD (ndD seed h 0) (i : Nat) msg) = V at *
  generalize msgD (ndD seed h 0) (i : Nat) msg = D at *
  generalize ndD seed h 0 = P at *
  generalize mAt seed h 0 [] = m1 at *
  have htn : ∀ l : Nat, (fun l : Nat => ndD seed l (sib i l : Nat)) l = ndD seed l (sib i l : Nat) := fun _ => rfl
  have htl : ∀ l : Nat, ((fun l : Nat => ndD seed l (sib i l : Nat)) l).length = 16 := fun l => ndD_length _ _ _
  generalize (fun l : Nat => ndD seed l (sib i l : Nat)) = T at *
  generalize hW : Wire.int (i : Nat) = W at *
  refine Ok.of_vcC tt_ok Tryd.func14 rfl rfl (by show 4 ≤ _; decide) 0 (hlt_ok (by rfl)) fun c0 => ?_
  repeat' (first | (refine Seq.allocB rfl (by rfl) (by rfl) (fun b => ?_)) | (first | with_reducible refine VC.seq ?_ | with_reducible refine VC.block ?_ | with_reducible refine VC.region ?_ | with_reducible refine VC.exit ?_ | with_reducible refine VC.ret ?_ | with_reducible refine VC.skip ?_ | with_reducible refine Seq.nil ?_ | with_reducible refine thenQ_n ?_ | with_reducible refine thenQ_r ?_ | with_reducible refine thenQ_e ?_ | with_reducible refine inQ_n ?_ | with_reducible refine inQ_r ?_ | with_reducible refine inQ_e ?_ | ((with_reducible refine inQ_o ?_ ?_); rfl) | (refine Seq.ev0 true tt_ok (by rfl) (by (first | exact trivial | exact u8_in _ rfl | exact u32_in _ rfl | ((with_reducible refine AllP.guard ?_); simp only [AllP, inI, fitV, maxK, inK, inbL, inb, List.append, List.cons_append, List.nil_append, true_and, and_true]; first | done | omega))) rfl rfl rfl ?_) | (refine Seq.ev true tt_ok (by rfl) (by (first | exact trivial | exact u8_in _ rfl | exact u32_in _ rfl | ((with_reducible refine AllP.guard ?_); simp only [AllP, inI, fitV, maxK, inK, inbL, inb, List.append, List.cons_append, List.nil_append, true_and, and_true]; first | done | omega))) rfl rfl rfl ?_) | (refine Seq.evn true tt_ok (by rfl) (by (first | exact trivial | exact u8_in _ rfl | exact u32_in _ rfl | ((with_reducible refine AllP.guard ?_); simp only [AllP, inI, fitV, maxK, inK, inbL, inb, List.append, List.cons_append, List.nil_append, true_and, and_true]; first | done | omega))) rfl ?_) | (refine Seq.pass (by rfl) rfl ?_)) | (refine Seq.callo false [] [] (atF seed 0 2) (nH seed []) 3 (c1) Tryd.func22 gK_ok subG.nil (by rfl) (by rfl) rfl rfl rfl rfl rfl (by rfl) rfl (by rfl) (by rfl) (by rfl) (by rfl) VW_ NI_ R_ (noFrL_ok NI_) BK_ ?_) | (refine Seq.lit (by rfl) (by rfl) LT2_ ?_) | (refine Seq.callq false (cv) Tryd.func21 GG_ SG_ (by rfl) rfl rfl rfl (by rfl) rfl VW_ NI_ NI_ FR_ ?_) | (refine Seq.callq false (c3) Tryd.func26 GG_ SG_ (by rfl) rfl rfl rfl (by rfl) rfl VW_ NI_ NI_ FR_ ?_) | (refine VC.litF (by rfl) LFA_ ?_) | fail)
  have c4 := writeF_ok b W (by omega) (by omega)
  refine Seq.calloE true [(0, 3)] [(3, 0), (4, 1)] (fun _ => wrT W.length) (fun x => [(3, bldU x W.length), (4, bufU x)]) 5 (c4) Tryd.func25 gK_ok subG.nil (by rfl) (by rfl) rfl rfl rfl rfl rfl (by rfl) rfl (by rfl) (by rfl) (fun _ => by rfl) VW_ NI_ R_ (noFrL_ok NI_) (fun _ => BK_) ?_
  intro x hx
  repeat' (first | (refine SS_ ?_) | (refine Seq.callo false [] [] (digA P) (nH seed m1) 5 (c2) Tryd.func44 gK_ok subG.refl (by rfl) (by rfl) rfl rfl rfl rfl rfl (by rfl) rfl (by rfl) (by rfl) (by rfl) (by rfl) VW_ NI_ R_ (noFrL_ok NI_) BK_ ?_) | (refine Seq.callq false (c5) Tryd.func16 GG_ SG_ (by rfl) rfl rfl rfl (by rfl) rfl VW_ NI_ NI_ FR_ ?_) | (refine Seq.callq false (c6) Tryd.func10 GG_ SG_ (by rfl) rfl rfl rfl (by rfl) rfl VW_ NI_ NI_ FR_ ?_) | fail)
  refine VC.loop (fun p : Nat × BX => ⟨[(52, .int .i64 (p.1 : Nat)), (51, .int .i64 (68 : Nat)), (50, .rsl true 68 1 (fun j => .int .i64 (dig D j))), (11, .ptr 3 []), (10, atF seed 0 2), (2, .int .i64 (i : Nat)), (1, .int .i64 (h : Nat)), (0, .str seed)], [(0, .mp 1), (1, memA m1), (2, atF seed 0 2), (3, bldU p.2 (W ++ catV V p.1).length), (4, bufU p.2)], gK, 5⟩)
    (fun p => p.1 ≤ 68 ∧ p.2.ok (W ++ catV V p.1)) (fun p => 68 - p.1) (0, x) ⟨Nat.zero_le _, by show x.ok (W ++ catV V 0); rw [show catV V 0 = [] from rfl, List.append_nil]; exact hx.1⟩ (by rw [show catV V 0 = [] from rfl, List.append_nil]; exact (Sim.less [] (by rfl) R_ R_)) fun p hp => ?_
  obtain ⟨q, y⟩ := p
  obtain ⟨hq, hy⟩ : q ≤ 68 ∧ y.ok (W ++ catV V q) := hp
  show VC _ _ _ ⟨[(52, .int .i64 (q : Nat)), (51, .int .i64 (68 : Nat)), (50, .rsl true 68 1 (fun j => .int .i64 (dig D j))), (11, .ptr 3 []), (10, atF seed 0 2), (2, .int .i64 (i : Nat)), (1, .int .i64 (h : Nat)), (0, .str seed)], [(0, .mp 1), (1, memA m1), (2, atF seed 0 2), (3, bldU y (W ++ catV V q).length), (4, bufU y)], gK, 5⟩
  have hLq : (W ++ catV V q).length = W.length + 16 * q := by rw [List.length_append, hcat]
  by_cases hq68 : q < 68
  · have d1 := start_ok seed (by omega) (i : Nat) (q : Nat) ⟨by omega, by omega⟩ ⟨by omega, by omega⟩
    have hdq := hdl q
    have d2 := adv_ok (i : Nat) (q : Nat) 0 (dig D q) (startD seed i q) (startD_length _ _ _) ⟨by omega, by omega⟩ ⟨by omega, by omega⟩ ⟨by omega, by omega, by omega⟩
    rw [Int.sub_zero, ← hvs q] at d2
    have d3 := writeU_ok y (W ++ catV V q) (V q) hy (by omega) (by have := hvl q; omega)
    rw [List.append_assoc, ← catV_succ] at d3
    have hv16 := hvl q
    have hdd : dig D ((q : Nat) : Int).toNat = dig D q := by rw [Int.toNat_natCast]
    generalize startD seed i q = S at *
    generalize V q = v at *
    generalize W ++ catV V q = L at *
    generalize hL2 : W ++ catV V (q + 1) = L2 at *
    repeat' (first | (refine SS_ ?_) | (refine Seq.callq false (d1) Tryd.func28 GG_ SG_ (by rfl) rfl rfl rfl (by rfl) rfl VW_ NI_ NI_ FR_ ?_) | (refine Seq.callq false (d2) Tryd.func27 GG_ SG_ (by rfl) rfl rfl rfl (by rfl) rfl VW_ NI_ NI_ FR_ ?_) | (refine VC.litT (by rfl) LTR_ ?_) | fail)
    refine Seq.calloE true [(0, 3), (1, 4)] [(3, 0), (6, 2)] (fun _ => wrT v.length) (fun x => [(3, bldU x L2.length), (6, bufU x)]) 7 (d3) Tryd.func25 gK_ok subG.nil (by rfl) (by rfl) rfl rfl rfl rfl rfl (by rfl) rfl (by rfl) (by rfl) (fun _ => by rfl) VW_ NI_ R_ (noFrL_ok NI_) (fun _ => BK_) ?_
    intro z hz
    repeat' (first | (refine SS_ ?_) | fail)
    refine ⟨(q + 1, z), ⟨show q + 1 ≤ 68 by omega, show z.ok (W ++ catV V (q + 1)) by rw [hL2]; exact hz.1⟩, show 68 - (q + 1) < 68 - q by omega, ?_⟩
    show ∀ a w, _ → Sim _ ⟨[(52, .int .i64 ((q + 1 : Nat) : Int)), (51, .int .i64 (68 : Nat)), (50, .rsl true 68 1 (fun j => .int .i64 (dig D j))), (11, .ptr 3 []), (10, atF seed 0 2), (2, .int .i64 (i : Nat)), (1, .int .i64 (h : Nat)), (0, .str seed)], [(0, .mp 1), (1, memA m1), (2, atF seed 0 2), (3, bldU z (W ++ catV V (q + 1)).length), (4, bufU z)], gK, 5⟩ a w
    rw [hL2]
    exact (Sim.less [(4, 6)] (by rfl) R_ R_)
  · obtain rfl : q = 68 := by omega
    repeat' (first | (refine SS_ ?_) | (refine VC.litF (by rfl) LFA_ ?_) | fail)
    generalize hX : W ++ catV V 68 = X at *
    have hXl : X.length = W.length + 16 * 68 := hLq
    refine VC.loop (fun p : Nat × BX × Mem => ⟨[(69, .int .i64 (p.1 : Nat)), (68, .int .i64 (h : Nat)), (11, .ptr 3 []), (10, atF seed 0 2), (2, .int .i64 (i : Nat))], [(0, .mp 1), (1, memA p.2.2), (2, atF seed 0 2), (3, bldU p.2.1 (X ++ catV T p.1).length), (4, bufU p.2.1)], gK, 5⟩)
      (fun p => p.1 ≤ h ∧ p.2.1.ok (X ++ catV T p.1) ∧ MOk seed p.2.2) (fun p => h - p.1) (0, y, m1) ⟨Nat.zero_le _, by show y.ok (X ++ catV T 0); rw [show catV T 0 = [] from rfl, List.append_nil]; exact hy, hm1⟩ (by rw [show catV T 0 = [] from rfl, List.append_nil]; exact (Sim.less [] (by rfl) R_ R_)) fun p hp => ?_
    obtain ⟨q, z, m⟩ := p
    obtain ⟨hq, hz, hm2⟩ : q ≤ h ∧ z.ok (X ++ catV T q) ∧ MOk seed m := hp
    show VC _ _ _ ⟨[(69, .int .i64 (q : Nat)), (68, .int .i64 (h : Nat)), (11, .ptr 3 []), (10, atF seed 0 2), (2, .int .i64 (i : Nat))], [(0, .mp 1), (1, memA m), (2, atF seed 0 2), (3, bldU z (X ++ catV T q).length), (4, bufU z)], gK, 5⟩
    have hLz : (X ++ catV T q).length = X.length + 16 * q := by rw [List.length_append, hcat2]
    by_cases hqh : q < h
    · have d1 := at_okN seed (by omega) q (by omega) (sib i q : Nat) ⟨by omega, sib_ok hh hi hqh⟩ m hm2
      rw [← htn q] at d1
      have hbx := bits_xor1 i q (by omega) (by omega)
      have d3 := writeU_ok z (X ++ catV T q) (T q) hz (by omega) (by have := htl q; omega)
      rw [List.append_assoc, ← catV_succ] at d3
      have hv16 := htl q
      have hm3 := mAt_ok q (sib i q : Nat) m hm2
      generalize mAt seed q (sib i q : Nat) m = m3 at *
      generalize sib i q = sb at *
      generalize T q = v at *
      generalize X ++ catV T q = L at *
      generalize hL2 : X ++ catV T (q + 1) = L2 at *
      repeat' (first | (refine SS_ ?_) | (refine Seq.callo false [] [] (digA v) (nH seed m3) 5 (d1) Tryd.func44 gK_ok subG.refl (by rfl) (by rfl) rfl rfl rfl rfl rfl (by rfl) rfl (by rfl) (by rfl) (by rfl) (by rfl) VW_ NI_ R_ (noFrL_ok NI_) BK_ ?_) | (refine VC.litT (by rfl) LTR_ ?_) | fail)
      refine Seq.calloE true [(0, 3), (1, 4)] [(3, 0), (6, 2)] (fun _ => wrT v.length) (fun x => [(3, bldU x L2.length), (6, bufU x)]) 7 (d3) Tryd.func25 gK_ok subG.nil (by rfl) (by rfl) rfl rfl rfl rfl rfl (by rfl) rfl (by rfl) (by rfl) (fun _ => by rfl) VW_ NI_ R_ (noFrL_ok NI_) (fun _ => BK_) ?_
      intro z2 hz2
      repeat' (first | (refine SS_ ?_) | fail)
      refine ⟨(q + 1, z2, m3), ⟨show q + 1 ≤ h by omega, show z2.ok (X ++ catV T (q + 1)) by rw [hL2]; exact hz2.1, hm3⟩, show h - (q + 1) < h - q by omega, ?_⟩
      show ∀ a w, _ → Sim _ ⟨[(69, .int .i64 ((q + 1 : Nat) : Int)), (68, .int .i64 (h : Nat)), (11, .ptr 3 []), (10, atF seed 0 2), (2, .int .i64 (i : Nat))], [(0, .mp 1), (1, memA m3), (2, atF seed 0 2), (3, bldU z2 (X ++ catV T (q + 1)).length), (4, bufU z2)], gK, 5⟩ a w
      rw [hL2]
      exact (Sim.less [(4, 6)] (by rfl) R_ R_)
    · obtain rfl : q = h := by omega
      have d1 := string_ok z (X ++ catV T q) hz (by omega)
      rw [← hSB] at d1 hLz
      rw [← hSB]
      repeat' (first | (refine SS_ ?_) | (refine Seq.callo false [(0, 3), (1, 4)] [] (.str SB) ([]) 5 (d1) Tryd.func29 gK_ok subG.nil (by rfl) (by rfl) rfl rfl rfl rfl rfl (by rfl) rfl (by rfl) (by rfl) (by rfl) (by rfl) VW_ NI_ R_ (noFrL_ok NI_) BK_ ?_) | (refine VC.litF (by rfl) LFA_ ?_) | fail)
      (refine retC_mk ([(8, .str SB), (9, .int .i64 0)]) ([]) 5 (Sim.less [] (by rfl) R_ R_) (retQ_ok (by rfl) ([]) (fun i av h => h) ⟨?_, ?_⟩)) <;> rfl
theorem sign_no (seed : List UInt8) (h i : Int) (msg : List UInt8) (hs : seed.length ≤ 1000000000) (hm : msg.length ≤ 1000000000) (e : Int) (he : (¬ (seed.length = 32 ∧ 0 ≤ h ∧ h ≤ 6) ∧ e = 1) ∨ ((seed.length = 32 ∧ 0 ≤ h ∧ h ≤ 6) ∧ (i < 0 ∨ ((2 ^ h.toNat : Nat) : Int) ≤ i) ∧ e = 22) ∨ ((seed.length = 32 ∧ 0 ≤ h ∧ h ≤ 6) ∧ ¬ (i < 0 ∨ ((2 ^ h.toNat : Nat) : Int) ≤ i) ∧ 1048576 < msg.length ∧ e = 4)) : Ok Tryd.prog 14 gK [] (.pair (.str seed) (.pair (.int .i64 h) (.pair (.int .i64 i) (.pair (.str msg) .nul)))) (fun r h' => r = errS e ∧ h' = []) := by
  have cv := svalid_ok h
  have hsh := fun d (hd : d ≤ 61) => shl_i64 (d := d) hd
  rcases he with ⟨hh, rfl⟩ | ⟨⟨h0, h1, h2⟩, hi, rfl⟩ | ⟨⟨h0, h1, h2⟩, hi, hml, rfl⟩
  · by_cases h0 : seed.length = 32
    · rw [decide_eq_false (fun e => hh ⟨h0, e⟩)] at cv
      clear hh
      refine Ok.of_vcC tt_ok Tryd.func14 rfl rfl (by show 4 ≤ _; decide) 0 (hlt_ok (by rfl)) fun c0 => ?_
      repeat' (first | (refine SS_ ?_) | (refine Seq.lit (by rfl) (by rfl) LT2_ ?_) | (refine Seq.callq false (cv) Tryd.func21 GG_ SG_ (by rfl) rfl rfl rfl (by rfl) rfl VW_ NI_ NI_ FR_ ?_) | (refine VC.litT (by rfl) LTR_ ?_) | fail)
      (refine retC_mk ([(8, .str []), (9, .int .i64 1)]) ([]) 0 (Sim.less [] (by rfl) R_ R_) (retQ_ok (by rfl) ([]) (fun i av h => h) ⟨?_, ?_⟩)) <;> rfl
    · clear hh
      refine Ok.of_vcC tt_ok Tryd.func14 rfl rfl (by show 4 ≤ _; decide) 0 (hlt_ok (by rfl)) fun c0 => ?_
      repeat' (first | (refine SS_ ?_) | (refine Seq.lit (by rfl) (by rfl) LT2_ ?_) | (refine VC.litT (by rfl) LTR_ ?_) | fail)
      (refine retC_mk ([(8, .str []), (9, .int .i64 1)]) ([]) 0 (Sim.less [] (by rfl) R_ R_) (retQ_ok (by rfl) ([]) (fun i av h => h) ⟨?_, ?_⟩)) <;> rfl
  · rw [decide_eq_true ⟨h1, h2⟩] at cv
    obtain ⟨n, rfl⟩ : ∃ n : Nat, h = n := ⟨h.toNat, by omega⟩
    have hsh := hsh n (by omega)
    rw [Int.toNat_natCast] at hi
    generalize 2 ^ n = M at *
    by_cases hi0 : i < 0
    · refine Ok.of_vcC tt_ok Tryd.func14 rfl rfl (by show 4 ≤ _; decide) 0 (hlt_ok (by rfl)) fun c0 => ?_
      repeat' (first | (refine SS_ ?_) | (refine Seq.lit (by rfl) (by rfl) LT2_ ?_) | (refine Seq.callq false (cv) Tryd.func21 GG_ SG_ (by rfl) rfl rfl rfl (by rfl) rfl VW_ NI_ NI_ FR_ ?_) | (refine VC.litT (by rfl) LTR_ ?_) | (refine VC.litF (by rfl) LFA_ ?_) | fail)
      (refine retC_mk ([(8, .str []), (9, .int .i64 22)]) ([]) 0 (Sim.less [] (by rfl) R_ R_) (retQ_ok (by rfl) ([]) (fun i av h => h) ⟨?_, ?_⟩)) <;> rfl
    · refine Ok.of_vcC tt_ok Tryd.func14 rfl rfl (by show 4 ≤ _; decide) 0 (hlt_ok (by rfl)) fun c0 => ?_
      repeat' (first | (refine SS_ ?_) | (refine Seq.lit (by rfl) (by rfl) LT2_ ?_) | (refine Seq.callq false (cv) Tryd.func21 GG_ SG_ (by rfl) rfl rfl rfl (by rfl) rfl VW_ NI_ NI_ FR_ ?_) | (refine VC.litT (by rfl) LTR_ ?_) | (refine VC.litF (by rfl) LFA_ ?_) | fail)
      (refine retC_mk ([(8, .str []), (9, .int .i64 22)]) ([]) 0 (Sim.less [] (by rfl) R_ R_) (retQ_ok (by rfl) ([]) (fun i av h => h) ⟨?_, ?_⟩)) <;> rfl
  · rw [decide_eq_true ⟨h1, h2⟩] at cv
    obtain ⟨n, rfl⟩ : ∃ n : Nat, h = n := ⟨h.toNat, by omega⟩
    have hsh := hsh n (by omega)
    rw [Int.toNat_natCast] at hi
    generalize 2 ^ n = M at *
    refine Ok.of_vcC tt_ok Tryd.func14 rfl rfl (by show 4 ≤ _; decide) 0 (hlt_ok (by rfl)) fun c0 => ?_
    repeat' (first | (refine SS_ ?_) | (refine Seq.lit (by rfl) (by rfl) LT2_ ?_) | (refine Seq.callq false (cv) Tryd.func21 GG_ SG_ (by rfl) rfl rfl rfl (by rfl) rfl VW_ NI_ NI_ FR_ ?_) | (refine VC.litT (by rfl) LTR_ ?_) | (refine VC.litF (by rfl) LFA_ ?_) | fail)
    (refine retC_mk ([(8, .str []), (9, .int .i64 4)]) ([]) 0 (Sim.less [] (by rfl) R_ R_) (retQ_ok (by rfl) ([]) (fun i av h => h) ⟨?_, ?_⟩)) <;> rfl
end Go.Proofs.YthejnchhddggmaaDoor
