/- Journals: numbers read from bytes (a range over slices.Backward; the reference's loop). -/
import Derived.Test.YtmbldnahcmkpgaaDoorAc
set_option linter.unusedSimpArgs false
set_option linter.unusedVariables false
namespace Go.Jn
open Go.Dk (Bs)
theorem val_drop {l : Bs} {i : Nat} (h : i < l.length) : val (l.drop i) = (l.getD i 0).toNat + 256 * val (l.drop (i + 1)) := by
  rw [List.drop_eq_getElem_cons h, val, List.getD_eq_getElem?_getD, List.getElem?_eq_getElem h]; rfl
theorem val_le4 {l : Bs} (h : l.length ≤ 4) : val l ≤ 4294967295 := by
  have := val_lt l
  have : 256 ^ l.length ≤ 256 ^ 4 := Nat.pow_le_pow_right (by decide) h
  omega
theorem val_drop_lt {l : Bs} (h : l.length ≤ 4) {i : Nat} (hi : 1 ≤ i) : val (l.drop i) ≤ 16777215 := by
  have := val_lt (l.drop i)
  have : 256 ^ (l.drop i).length ≤ 256 ^ 3 := Nat.pow_le_pow_right (by decide) (by rw [List.length_drop]; omega)
  omega
end Go.Jn
namespace Go.Proofs.YtmbldnahcmkpgaaDoor
open Go.V Go.RowKit Go.L Go.Lx Go.Jn Go.Dk
set_option maxRecDepth 10000
set_option maxHeartbeats 4000000
theorem number_ok (l : Bs) (hl : l.length ≤ 4) : Ok Tryd.prog 31 [] [] (.pair (.str l) .nul) (fun r h' => r = .int .i64 (val l : Nat) ∧ h' = []) := by
  refine Ok.of_vcC tt_ok Tryd.func31 rfl rfl (by show 1 ≤ _; decide) 0 (hlt_ok (by rfl)) fun c0 => ?_
  repeat' (first | (refine SS_ ?_) | fail)
  refine VC.loop (fun k : Nat => ⟨[(4, .int .i64 ((k : Nat) - 1 : Int)), (3, .int .i64 (val (l.drop k) : Nat)), (0, .str l)], [], [], 0⟩) (fun k => k ≤ l.length) (fun k => k) l.length (Nat.le_refl _) (by
    rw [List.drop_length]
    exact (Sim.less [] (by rfl) R_ R_)
    all_goals rfl) fun k hk => ?_
  cases k with
  | succ k =>
    have hv := val_drop (l := l) (i := k) (by omega)
    have hb := val_drop_lt hl (i := k + 1) (by omega)
    have hx : (l.getD ((k : Int)).toNat 0).toNat < 256 := UInt8.toNat_lt _
    generalize hq : val (l.drop (k + 1)) = q at *
    generalize hv2 : val (l.drop k) = v at *
    rw [show (((k + 1 : Nat) : Int) - 1) = (k : Int) by omega]
    repeat' (first | (refine SS_ ?_) | (refine VC.litT (by rfl) LTR_ ?_) | fail)
    refine ⟨k, by omega, by omega, ?_⟩
    rw [hv2]
    (refine Sim.less [] (by rfl) ?_ ?_ <;> (repeat' (first | (exact EnvLe.nil) | (exact HeapLe.nil) | (with_reducible apply EnvLe.cons) | ((with_reducible refine RelA.int ?_; first | (refine Keep.mk ?_; first | with_reducible rfl | omega | decide) | skip)) | (exact rfl) | fail)) <;> (try with_reducible refine Keep.mk ?_))
    rw [Int.toNat_natCast]; omega
  | zero =>
    rw [List.drop_zero]
    repeat' (first | (refine SS_ ?_) | (refine VC.litF (by rfl) LFA_ ?_) | fail)
    (refine retC_mk ([(2, .int .i64 (val l : Nat))]) ([]) 0 (Sim.less [] (by rfl) R_ R_) (retQ_ok (by rfl) ([]) (fun i av h => h) ⟨?_, ?_⟩)) <;> rfl
theorem back_ok (l : Bs) : Ok Tryd.prog 66 [] [] (.pair (bytesA false l) .nul) (fun r h' => r = .fn (.func 73) .nul (.pair (.ptr 0 []) .nul) ∧ h' = [(0, bytesA false l)]) := by
  refine Ok.of_vcC tt_ok Tryd.func66 rfl rfl (by show 1 ≤ _; decide) 0 (hlt_ok (by rfl)) fun c0 => ?_
  repeat' (first | (refine SS_ ?_) | fail)
  (refine retC_mk ([(2, .fn (.func 73) .nul (.pair (.ptr 0 []) .nul))]) ([(0, bytesA false l)]) 1 (Sim.less [] (by rfl) R_ R_) (retQ_ok (by rfl) ([(0, bytesA false l)]) (fun i av h => h) ⟨?_, ?_⟩)) <;> rfl
theorem or_add (q x : Nat) (hq : q ≤ 16777215) (hx : x < 256) : bits .or .i64 (IntKind.i64.wrap ((q : Int) * 2 ^ min (Int.toNat 8) IntKind.i64.bits)) (x : Nat) = ((x + 256 * q : Nat) : Int) := by
  have hw : ∀ n : Nat, n ≤ 9223372036854775807 → IntKind.i64.wrap (n : Int) = n := fun n h => by
    simp [IntKind.wrap, IntKind.bits, IntKind.signed]; omega
  have e : (q : Int) * (2 : Int) ^ min (Int.toNat 8) IntKind.i64.bits = ((q <<< 8 : Nat) : Int) := by
    rw [Nat.shiftLeft_eq]; exact rfl
  have h8 : q <<< 8 = q * 256 := Nat.shiftLeft_eq _ _
  rw [e, hw _ (by omega)]
  show IntKind.i64.wrap (((BitVec.ofInt 64 ((q <<< 8 : Nat) : Int)) ||| (BitVec.ofInt 64 (x : Int))).toNat : Int) = _
  rw [show BitVec.ofInt 64 ((q <<< 8 : Nat) : Int) = BitVec.ofNat 64 (q <<< 8) from BitVec.ofInt_natCast .., show BitVec.ofInt 64 (x : Int) = BitVec.ofNat 64 x from BitVec.ofInt_natCast .., BitVec.toNat_or, BitVec.toNat_ofNat, BitVec.toNat_ofNat, Nat.mod_eq_of_lt (by omega), Nat.mod_eq_of_lt (by omega), ← Nat.shiftLeft_add_eq_or_of_lt (by omega), hw _ (by omega), h8]
  congr 1; omega
theorem get_ok (l : Bs) (hl : l.length ≤ 4) : Ok Tryd.prog 49 [] [] (.pair (bytesA false l) .nul) (fun r h' => r = .int .i64 (val l : Nat) ∧ h' = []) := by
  have c2 := back_ok l
  refine Ok.of_vcM tt_ok Tryd.func49 rfl rfl (by show 1 ≤ _; decide) 0 (hlt_ok (by rfl)) fun c0 => ?_
  refine VCX.seqV ?_
  repeat' (first | (refine SS_ ?_) | fail)
  refine VCX.seqV ?_
  repeat' (first | (refine SS_ ?_) | fail)
  refine VCX.seq (by rfl) (VCX.seqV ?_)
  repeat' (first | (refine SS_ ?_) | (refine Seq.callo false [] [(1, 0)] (.fn (.func 73) .nul (.pair (.ptr 1 []) .nul)) ([(1, bytesA false l)]) 2 (c2) Tryd.func66 GOk.nil subG.nil (by rfl) (by rfl) rfl rfl rfl rfl rfl (by rfl) rfl (by rfl) (by rfl) (by rfl) (by rfl) VW_ NI_ R_ (noFrL_ok NI_) BK_ ?_) | fail)
  refine VCX.block (by rfl) (VCX.range (by rfl) (by rfl) (by rfl) (by rfl) (by rfl) (by rfl) (by rfl) (by rfl) ?_)
  intro cc d b rec hrec
  repeat' (first | (refine SS_ ?_) | fail)
  refine VC.loop (fun k : Nat => ⟨[(3, .int .i64 ((k : Nat) - 1 : Int)), (1, .ptr 1 []), (0, .val (.func (.yield b) #[] #[]))], [(3, .ob b (.loop { rec with state := .ready, pending := none })), (2, .ob d (.deferred (some []))), (1, bytesA false l), (0, .int .i64 (val (l.drop k) : Nat))], [], 4⟩) (fun k => k ≤ l.length) (fun k => k) l.length (Nat.le_refl _) (by
    rw [List.drop_length]
    exact (Sim.less [] (by rfl) R_ R_)
    all_goals rfl) fun k hk => ?_
  cases k with
  | succ k =>
    have hv := val_drop (l := l) (i := k) (by omega)
    have hb := val_drop_lt hl (i := k + 1) (by omega)
    have hx : (l.getD ((k : Int)).toNat 0).toNat < 256 := UInt8.toNat_lt _
    generalize hq : val (l.drop (k + 1)) = q at *
    generalize hv2 : val (l.drop k) = v at *
    rw [show (((k + 1 : Nat) : Int) - 1) = (k : Int) by omega]
    repeat' (first | (refine VC.regionY 6 (by rfl) ?_) | (first | with_reducible refine VC.seq ?_ | with_reducible refine VC.block ?_ | with_reducible refine VC.region ?_ | with_reducible refine VC.exit ?_ | with_reducible refine VC.ret ?_ | with_reducible refine VC.skip ?_ | with_reducible refine Seq.nil ?_ | with_reducible refine thenQ_n ?_ | with_reducible refine thenQ_r ?_ | with_reducible refine thenQ_e ?_ | with_reducible refine inQ_n ?_ | with_reducible refine inQ_r ?_ | with_reducible refine inQ_e ?_ | ((with_reducible refine inQ_o ?_ ?_); rfl) | (refine Seq.ev0 true tt_ok (by rfl) (by (first | exact trivial | exact u8_in _ rfl | exact u32_in _ rfl | ((with_reducible refine AllP.guard ?_); simp only [AllP, inI, fitV, maxK, inK, inbL, inb, List.append, List.cons_append, List.nil_append, true_and, and_true]; first | done | omega))) rfl rfl rfl ?_) | (refine Seq.ev true tt_ok (by rfl) (by (first | exact trivial | exact u8_in _ rfl | exact u32_in _ rfl | ((with_reducible refine AllP.guard ?_); simp only [AllP, inI, fitV, maxK, inK, inbL, inb, List.append, List.cons_append, List.nil_append, true_and, and_true]; first | done | omega))) rfl rfl rfl ?_) | (refine Seq.evn true tt_ok (by rfl) (by (first | exact trivial | exact u8_in _ rfl | exact u32_in _ rfl | ((with_reducible refine AllP.guard ?_); simp only [AllP, inI, fitV, maxK, inK, inbL, inb, List.append, List.cons_append, List.nil_append, true_and, and_true]; first | done | omega))) rfl ?_) | (refine Seq.pass (by rfl) rfl ?_)) | (refine VC.litT (by rfl) LTR_ ?_) | fail)
    refine YTo.round (id := 3) hrec (by rfl) (by rfl) (by rfl) (by rfl) (by rfl) (by rfl) (by rfl) (by rfl) fun cy hcy => ?_
    repeat' (first | (refine SS_ ?_) | fail)
    refine ⟨by rfl, ?_⟩
    repeat' (first | (refine SS_ ?_) | fail)
    refine ⟨none, by rfl, by rfl, ?_⟩
    repeat' (first | (refine SS_ ?_) | (refine VC.litF (by rfl) LFA_ ?_) | fail)
    refine ⟨k, by omega, by omega, ?_⟩
    rw [hv2, or_add _ _ hb hx, show (l.getD ((k : Int)).toNat 0).toNat + 256 * q = v by rw [Int.toNat_natCast]; omega]
    show ∀ a_1 w, _ → Sim _ ⟨[(3, .int .i64 ((k : Nat) - 1 : Int)), (1, .ptr 1 []), (0, .val (.func (.yield b) #[] #[]))], [(3, .ob b (.loop { rec with state := .ready, pending := none })), (2, .ob d (.deferred (some []))), (1, bytesA false l), (0, .int .i64 (v : Nat))], [], 4⟩ a_1 w
    exact (Sim.less [] (by rfl) R_ R_)
  | zero =>
    rw [List.drop_zero]
    repeat' (first | (refine SS_ ?_) | (refine VC.litF (by rfl) LFA_ ?_) | fail)
    refine ⟨.inr rfl, none, .ready, .normal, (fun h => by cases h), rfl, by rfl, fun cf => ?_⟩
    refine ⟨by rfl, ?_⟩
    refine VCX.seqV ?_
    repeat' (first | (refine SS_ ?_) | fail)
    refine VCX.of_vc ?_
    repeat' (first | (refine SS_ ?_) | fail)
    refine retM_one 2 d (by rfl) (by rfl) rfl ?_
    (refine retC_mk ([(2, .int .i64 (val l : Nat))]) ([]) 4 (Sim.less [] (by rfl) R_ R_) (retQ_ok (by rfl) ([]) (fun i av h => h) ⟨?_, ?_⟩)) <;> rfl
end Go.Proofs.YtmbldnahcmkpgaaDoor
