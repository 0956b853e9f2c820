/- Journals: counts, numbers of few bytes, equality of bytes. Journals: numbers read from bytes (a range over slices.Backward; the reference's loop). -/
import Derived.Test.YtmbldnahcmkpgaaDoorAb
import Derived.Test.YtmbldnahcmkpgaaDoorFs
import Derived.Test.YtmbldnahcmkpgaaDoorHa
import Derived.Test.YtmbldnahcmkpgaaDoorDb
set_option linter.unusedSimpArgs false
set_option linter.unusedVariables false
namespace Go.Proofs.YtmbldnahcmkpgaaDoor
open Go.V Go.RowKit Go.L Go.Lx Go.Jn Go.Dk
set_option maxRecDepth 10000
set_option maxHeartbeats 4000000
theorem cnt_out {n : Int} (h : n < 0 ∨ 8000 < n) : cnt n = 0 := by unfold cnt; rw [if_pos h]
theorem cnt_in {n : Int} (h0 : 0 ≤ n) (h1 : n ≤ 8000) : ((cnt n : Nat) : Int) = max 1 ((n + 47) / 48) := by
  unfold cnt cntN; rw [if_neg (by omega)]; omega
theorem count_ok (n : Int) (hn : I64 n) : Ok Tryd.prog 11 [] [] (.pair (.int .i64 n) .nul) (fun r h' => r = .int .i64 (cnt n : Nat) ∧ h' = []) := by
  obtain ⟨n1, n2⟩ := hn
  refine Ok.of_vcC tt_ok Tryd.func11 rfl rfl (by show 1 ≤ _; decide) 0 (hlt_ok (by rfl)) fun c0 => ?_
  repeat' (first | (refine SS_ ?_) | (refine Seq.val (max_ok (by rfl) (by rfl)) (by rfl) (by rfl) ?_) | (refine VC.litT (by rfl) LTR_ ?_) | (refine Seq.litC (by rfl) (by rfl) (fun hb => ?_) (fun hb => ?_) <;> (fail_if_success (with_reducible have := litT_ hb)) <;> (fail_if_success (with_reducible have := litF_ hb)) <;> (try simp only [HB_] at hb) <;> (try (exfalso; first | omega | (cases hb; done)))) | (refine VC.cond (by rfl) (fun hb => ?_) (fun hb => ?_) <;> (fail_if_success (with_reducible have := litT_ hb)) <;> (fail_if_success (with_reducible have := litF_ hb)) <;> (try simp only [HB_] at hb) <;> (try (exfalso; first | omega | (cases hb; done)))) | fail)
  · rw [cnt_out (by omega)]
    (refine retC_mk ([(2, .int .i64 0)]) ([]) 0 (Sim.less [] (by rfl) R_ R_) (retQ_ok (by rfl) ([]) (fun i av h => h) ⟨?_, ?_⟩)) <;> rfl
  · rw [cnt_out (by omega)]
    (refine retC_mk ([(2, .int .i64 0)]) ([]) 0 (Sim.less [] (by rfl) R_ R_) (retQ_ok (by rfl) ([]) (fun i av h => h) ⟨?_, ?_⟩)) <;> rfl
  · rw [cnt_in (by omega) (by omega), show n + 47 = n + 48 - 1 by omega]
    (refine retC_mk ([(2, .int .i64 (max 1 ((n + 48 - 1) / 48)))]) ([]) 0 (Sim.less [] (by rfl) R_ R_) (retQ_ok (by rfl) ([]) (fun i av h => h) ⟨?_, ?_⟩)) <;> rfl
/-- Some bytes put into others. -/
def putAt (b : Bs) (o : Nat) (x : Bs) : Bs := b.take o ++ (x ++ b.drop (o + x.length))
theorem putAt_nil (b : Bs) (o : Nat) : putAt b o [] = b := by unfold putAt; simp
theorem putAt_len {b x : Bs} {o : Nat} (h : o + x.length ≤ b.length) : (putAt b o x).length = b.length := by
  unfold putAt; simp only [List.length_append, List.length_take, List.length_drop]; omega
theorem putAt_snoc {b x : Bs} {o : Nat} {c : UInt8} (h : o + x.length < b.length) : putAt b o (x ++ [c]) = (putAt b o x).set (o + x.length) c := by
  unfold putAt
  have h1 : (b.take o).length = o := by rw [List.length_take]; omega
  rw [List.set_append_right _ _ (by omega), h1, Nat.add_sub_cancel_left, List.set_append_right _ _ (Nat.le_refl _), Nat.sub_self]
  congr 1
  rw [List.append_assoc]
  congr 1
  rw [List.length_append, List.length_singleton, List.drop_eq_getElem_cons (i := o + x.length) (by omega), List.set_cons_zero, List.singleton_append, Nat.add_assoc]
theorem u8_ofNat (n : Nat) : ((UInt8.ofNat n).toNat : Int) = IntKind.u8.wrap (n : Int) := by
  simp only [IntKind.wrap, IntKind.bits, IntKind.signed]
  simp
theorem put_ok (b : Bs) (o m n : Nat) (hb : b.length = 64) (hm : o + m ≤ 64) (hn : n ≤ 1048576) : Ok Tryd.prog 46 [] [(0, blkA b)] (.pair (.sl 0 [] 1 o m) (.pair (.int .i64 (n : Nat)) .nul)) (fun r h' => r = .tup .nul ∧ h' = [(0, blkA (putAt b o (small n m)))]) := by
  refine Ok.of_vcC tt_ok Tryd.func46 rfl rfl (by show 2 ≤ _; decide) 1 (hlt_ok (by rfl)) fun c0 => ?_
  repeat' (first | (refine SS_ ?_) | fail)
  refine VC.loop (fun k : Nat => ⟨[(7, .int .i64 (k : Nat)), (6, .int .i64 (m : Nat)), (1, .int .i64 ((n / 256 ^ k : Nat) : Int)), (0, .sl 0 [] 1 o m)], [(0, blkA (putAt b o (small n k)))], [], 1⟩) (fun k => k ≤ m) (fun k => m - k) 0 (by omega) (by
    rw [show small n 0 = [] from rfl, putAt_nil, Nat.pow_zero, Nat.div_one]
    exact (Sim.less [] (by rfl) R_ R_)) fun k hk => ?_
  by_cases hkm : k < m
  · have hle : n / 256 ^ k ≤ 1048576 := Nat.le_trans (Nat.div_le_self _ _) hn
    have hp : putAt b o (small n (k + 1)) = (putAt b o (small n k)).set (o + k) (UInt8.ofNat (n / 256 ^ k)) := by
      rw [small_succ, putAt_snoc (by rw [small_len]; omega), small_len]
    have hl : (putAt b o (small n k)).length = 64 := by rw [putAt_len (by rw [small_len]; omega), hb]
    have hd : n / 256 ^ (k + 1) = n / 256 ^ k / 256 := by rw [Nat.pow_succ, Nat.div_div_eq_div_mul]
    have hf : ((n / 256 ^ k : Nat) : Int).fdiv (2 ^ min (Int.toNat 8) IntKind.i64.bits) = ((n / 256 ^ k / 256 : Nat) : Int) := by
      rw [Int.fdiv_eq_ediv_of_nonneg _ (by decide)]; exact (Int.natCast_ediv _ _).symm
    generalize hb1 : putAt b o (small n k) = b1 at *
    generalize hb2 : putAt b o (small n (k + 1)) = b2 at *
    generalize n / 256 ^ k = q at *
    repeat' (first | (refine SS_ ?_) | (refine VC.litT (by rfl) LTR_ ?_) | fail)
    refine ⟨k + 1, by omega, by omega, ?_⟩
    rw [hd, hb2, hp]
    rw [hf]
    (refine Sim.less [] (by rfl) ?_ ?_ <;> (repeat' (first | (exact EnvLe.nil) | (exact HeapLe.nil) | (with_reducible apply EnvLe.cons) | (with_reducible apply HeapLe.cons) | ((with_reducible refine RelA.int ?_; first | (refine Keep.mk ?_; first | with_reducible rfl | omega | decide) | skip)) | (exact rfl) | (exact ⟨rfl, rfl⟩) | ((refine RelA.arr ?_; intro i hi)) | fail)) <;> (try with_reducible refine Keep.mk ?_))
    by_cases h : i = o + k
    · rw [bif_eq (by omega), h, set_get (by omega), u8_ofNat]; exact rfl
    · rw [bif_ne (by omega), set_ne h]; exact rfl
  · obtain rfl : k = m := by omega
    repeat' (first | (refine SS_ ?_) | (refine VC.litF (by rfl) LFA_ ?_) | fail)
    (refine retC_mk ([]) ([(0, blkA (putAt b o (small n k)))]) 1 (Sim.less [] (by rfl) R_ R_) (retQ_ok (by rfl) ([(0, blkA (putAt b o (small n k)))]) (fun i av h => h) ⟨?_, ?_⟩)) <;> rfl
end Go.Proofs.YtmbldnahcmkpgaaDoor

namespace Go.Jn
open Go.Dk (Bs)
theorem val_drop {l : Bs} {i : Nat} (h : i < l.length) : val (l.drop i) = (l.getD i 0).toNat + 256 * val (l.drop (i + 1)) := by
  rw [List.drop_eq_getElem_cons h, val, List.getD_eq_getElem?_getD, List.getElem?_eq_getElem h]; rfl
theorem val_le4 {l : Bs} (h : l.length ≤ 4) : val l ≤ 4294967295 := by
  have := val_lt l
  have : 256 ^ l.length ≤ 256 ^ 4 := Nat.pow_le_pow_right (by decide) h
  omega
theorem val_drop_lt {l : Bs} (h : l.length ≤ 4) {i : Nat} (hi : 1 ≤ i) : val (l.drop i) ≤ 16777215 := by
  have := val_lt (l.drop i)
  have : 256 ^ (l.drop i).length ≤ 256 ^ 3 := Nat.pow_le_pow_right (by decide) (by rw [List.length_drop]; omega)
  omega
end Go.Jn
namespace Go.Proofs.YtmbldnahcmkpgaaDoor
open Go.V Go.RowKit Go.L Go.Lx Go.Jn Go.Dk
set_option maxRecDepth 10000
set_option maxHeartbeats 4000000
theorem back_ok (l : Bs) : Ok Tryd.prog 66 [] [] (.pair (bytesA false l) .nul) (fun r h' => r = .fn (.func 73) .nul (.pair (.ptr 0 []) .nul) ∧ h' = [(0, bytesA false l)]) := by
  refine Ok.of_vcC tt_ok Tryd.func66 rfl rfl (by show 1 ≤ _; decide) 0 (hlt_ok (by rfl)) fun c0 => ?_
  repeat' (first | (refine SS_ ?_) | fail)
  (refine retC_mk ([(2, .fn (.func 73) .nul (.pair (.ptr 0 []) .nul))]) ([(0, bytesA false l)]) 1 (Sim.less [] (by rfl) R_ R_) (retQ_ok (by rfl) ([(0, bytesA false l)]) (fun i av h => h) ⟨?_, ?_⟩)) <;> rfl
theorem or_add (q x : Nat) (hq : q ≤ 16777215) (hx : x < 256) : bits .or .i64 (IntKind.i64.wrap ((q : Int) * 2 ^ min (Int.toNat 8) IntKind.i64.bits)) (x : Nat) = ((x + 256 * q : Nat) : Int) := by
  have hw : ∀ n : Nat, n ≤ 9223372036854775807 → IntKind.i64.wrap (n : Int) = n := fun n h => by
    simp [IntKind.wrap, IntKind.bits, IntKind.signed]; omega
  have e : (q : Int) * (2 : Int) ^ min (Int.toNat 8) IntKind.i64.bits = ((q <<< 8 : Nat) : Int) := by
    rw [Nat.shiftLeft_eq]; exact rfl
  have h8 : q <<< 8 = q * 256 := Nat.shiftLeft_eq _ _
  rw [e, hw _ (by omega)]
  show IntKind.i64.wrap (((BitVec.ofInt 64 ((q <<< 8 : Nat) : Int)) ||| (BitVec.ofInt 64 (x : Int))).toNat : Int) = _
  rw [show BitVec.ofInt 64 ((q <<< 8 : Nat) : Int) = BitVec.ofNat 64 (q <<< 8) from BitVec.ofInt_natCast .., show BitVec.ofInt 64 (x : Int) = BitVec.ofNat 64 x from BitVec.ofInt_natCast .., BitVec.toNat_or, BitVec.toNat_ofNat, BitVec.toNat_ofNat, Nat.mod_eq_of_lt (by omega), Nat.mod_eq_of_lt (by omega), ← Nat.shiftLeft_add_eq_or_of_lt (by omega), hw _ (by omega), h8]
  congr 1; omega
theorem get_ok (l : Bs) (hl : l.length ≤ 4) : Ok Tryd.prog 49 [] [] (.pair (bytesA false l) .nul) (fun r h' => r = .int .i64 (val l : Nat) ∧ h' = []) := by
  have c2 := back_ok l
  refine Ok.of_vcM tt_ok Tryd.func49 rfl rfl (by show 1 ≤ _; decide) 0 (hlt_ok (by rfl)) fun c0 => ?_
  refine VCX.seqV ?_
  repeat' (first | (refine SS_ ?_) | fail)
  refine VCX.seqV ?_
  repeat' (first | (refine SS_ ?_) | fail)
  refine VCX.seq (by rfl) (VCX.seqV ?_)
  repeat' (first | (refine SS_ ?_) | (refine Seq.callo false [] [(1, 0)] (.fn (.func 73) .nul (.pair (.ptr 1 []) .nul)) ([(1, bytesA false l)]) 2 (c2) Tryd.func66 GOk.nil subG.nil (by rfl) (by rfl) rfl rfl rfl rfl rfl (by rfl) rfl (by rfl) (by rfl) (by rfl) (by rfl) VW_ NI_ R_ (noFrL_ok NI_) BK_ ?_) | fail)
  refine VCX.block (by rfl) (VCX.range (by rfl) (by rfl) (by rfl) (by rfl) (by rfl) (by rfl) (by rfl) (by rfl) ?_)
  intro cc d b rec hrec
  repeat' (first | (refine SS_ ?_) | fail)
  refine VC.loop (fun k : Nat => ⟨[(3, .int .i64 ((k : Nat) - 1 : Int)), (1, .ptr 1 []), (0, .val (.func (.yield b) #[] #[]))], [(3, .ob b (.loop { rec with state := .ready, pending := none })), (2, .ob d (.deferred (some []))), (1, bytesA false l), (0, .int .i64 (val (l.drop k) : Nat))], [], 4⟩) (fun k => k ≤ l.length) (fun k => k) l.length (Nat.le_refl _) (by
    rw [List.drop_length]
    exact (Sim.less [] (by rfl) R_ R_)
    all_goals rfl) fun k hk => ?_
  cases k with
  | succ k =>
    have hv := val_drop (l := l) (i := k) (by omega)
    have hb := val_drop_lt hl (i := k + 1) (by omega)
    have hx : (l.getD ((k : Int)).toNat 0).toNat < 256 := UInt8.toNat_lt _
    generalize hq : val (l.drop (k + 1)) = q at *
    generalize hv2 : val (l.drop k) = v at *
    rw [show (((k + 1 : Nat) : Int) - 1) = (k : Int) by omega]
    repeat' (first | (refine VC.regionY 6 (by rfl) ?_) | (first | with_reducible refine VC.seq ?_ | with_reducible refine VC.block ?_ | with_reducible refine VC.region ?_ | with_reducible refine VC.exit ?_ | with_reducible refine VC.ret ?_ | with_reducible refine VC.skip ?_ | with_reducible refine Seq.nil ?_ | with_reducible refine thenQ_n ?_ | with_reducible refine thenQ_r ?_ | with_reducible refine thenQ_e ?_ | with_reducible refine inQ_n ?_ | with_reducible refine inQ_r ?_ | with_reducible refine inQ_e ?_ | ((with_reducible refine inQ_o ?_ ?_); rfl) | (refine Seq.ev0 true tt_ok (by rfl) (by (first | exact trivial | exact u8_in _ rfl | exact u32_in _ rfl | ((with_reducible refine AllP.guard ?_); simp only [AllP, inI, fitV, maxK, inK, inbL, inb, List.append, List.cons_append, List.nil_append, true_and, and_true]; first | done | omega))) rfl rfl rfl ?_) | (refine Seq.ev true tt_ok (by rfl) (by (first | exact trivial | exact u8_in _ rfl | exact u32_in _ rfl | ((with_reducible refine AllP.guard ?_); simp only [AllP, inI, fitV, maxK, inK, inbL, inb, List.append, List.cons_append, List.nil_append, true_and, and_true]; first | done | omega))) rfl rfl rfl ?_) | (refine Seq.evn true tt_ok (by rfl) (by (first | exact trivial | exact u8_in _ rfl | exact u32_in _ rfl | ((with_reducible refine AllP.guard ?_); simp only [AllP, inI, fitV, maxK, inK, inbL, inb, List.append, List.cons_append, List.nil_append, true_and, and_true]; first | done | omega))) rfl ?_) | (refine Seq.pass (by rfl) rfl ?_)) | (refine VC.litT (by rfl) LTR_ ?_) | fail)
    refine YTo.round (id := 3) hrec (by rfl) (by rfl) (by rfl) (by rfl) (by rfl) (by rfl) (by rfl) (by rfl) fun cy hcy => ?_
    repeat' (first | (refine SS_ ?_) | fail)
    refine ⟨by rfl, ?_⟩
    repeat' (first | (refine SS_ ?_) | fail)
    refine ⟨none, by rfl, by rfl, ?_⟩
    repeat' (first | (refine SS_ ?_) | (refine VC.litF (by rfl) LFA_ ?_) | fail)
    refine ⟨k, by omega, by omega, ?_⟩
    rw [hv2, or_add _ _ hb hx, show (l.getD ((k : Int)).toNat 0).toNat + 256 * q = v by rw [Int.toNat_natCast]; omega]
    show ∀ a_1 w, _ → Sim _ ⟨[(3, .int .i64 ((k : Nat) - 1 : Int)), (1, .ptr 1 []), (0, .val (.func (.yield b) #[] #[]))], [(3, .ob b (.loop { rec with state := .ready, pending := none })), (2, .ob d (.deferred (some []))), (1, bytesA false l), (0, .int .i64 (v : Nat))], [], 4⟩ a_1 w
    exact (Sim.less [] (by rfl) R_ R_)
  | zero =>
    rw [List.drop_zero]
    repeat' (first | (refine SS_ ?_) | (refine VC.litF (by rfl) LFA_ ?_) | fail)
    refine ⟨.inr rfl, none, .ready, .normal, (fun h => by cases h), rfl, by rfl, fun cf => ?_⟩
    refine ⟨by rfl, ?_⟩
    refine VCX.seqV ?_
    repeat' (first | (refine SS_ ?_) | fail)
    refine VCX.of_vc ?_
    repeat' (first | (refine SS_ ?_) | fail)
    refine retM_one 2 d (by rfl) (by rfl) rfl ?_
    (refine retC_mk ([(2, .int .i64 (val l : Nat))]) ([]) 4 (Sim.less [] (by rfl) R_ R_) (retQ_ok (by rfl) ([]) (fun i av h => h) ⟨?_, ?_⟩)) <;> rfl
end Go.Proofs.YtmbldnahcmkpgaaDoor
