/- Draws: a word. -/
import Derived.Test.YtdbebdjnpckfdaaDoorSn
import Derived.Test.YtdbebdjnpckfdaaDoorRa
import Derived.Test.YtdbebdjnpckfdaaDoorRf
import Derived.Test.YtdbebdjnpckfdaaDoorFt
set_option linter.unusedSimpArgs false
set_option linter.unusedVariables false
namespace Go.Proofs.YtdbebdjnpckfdaaDoor
open Go.V Go.RowKit Go.U Go.L Go.Lx Go.Dw
set_option maxRecDepth 10000
set_option maxHeartbeats 4000000
theorem snoc_I64 {l : List Int} {t : Int} (hI : ∀ i, I64 (l.getD i 0)) (ht : I64 t) (i : Nat) : I64 ((l ++ [t]).getD i 0) := by
  rcases Nat.lt_or_ge i l.length with h | h
  · rw [app_lt h]; exact hI i
  · rcases (by omega : i = l.length ∨ l.length + 1 ≤ i) with rfl | h2
    · rw [app_eq]; exact ht
    · rw [List.getD_eq_getElem?_getD, List.getElem?_eq_none (by rw [List.length_append, List.length_singleton]; exact h2)]; exact ⟨by decide, by decide⟩
theorem parts2_sz (a b : List UInt8) : (partsB [a, b]).length ≤ a.length + b.length + 18 := by
  have h1 := Wire.int_length a.length
  have h2 := Wire.int_length b.length
  simp only [partsB, List.flatMap_cons, List.flatMap_nil, Wire.bytes, List.length_append, List.length_nil]
  omega
theorem wrap_in {n : Int} (h : I64 n) : IntKind.i64.wrap n = n := by
  unfold I64 at h
  simp [IntKind.wrap, IntKind.signed, IntKind.bits]; omega
theorem or_shl8 (m d : Nat) (hm : m < 1099511627776) (hd : d < 256) : bits .or .i64 (IntKind.i64.wrap ((m : Int) * 2 ^ min (Int.toNat 8) IntKind.i64.bits)) (d : Int) = ((m * 256 + d : Nat) : Int) := by
  have e1 : IntKind.i64.wrap ((m : Int) * 2 ^ min (Int.toNat 8) IntKind.i64.bits) = ((m * 256 : Nat) : Int) := by
    show IntKind.i64.wrap ((m : Int) * 256) = _
    rw [wrap_in ⟨by omega, by omega⟩]; omega
  rw [e1]
  show IntKind.i64.wrap (((BitVec.ofInt 64 ((m * 256 : Nat) : Int)) ||| (BitVec.ofInt 64 (d : Int))).toNat : Int) = _
  have h := Nat.shiftLeft_add_eq_or_of_lt (show d < 2 ^ 8 by omega) m
  rw [Nat.shiftLeft_eq] at h
  rw [ofInt_nat, ofInt_nat, BitVec.toNat_or, BitVec.toNat_ofNat, BitVec.toNat_ofNat, Nat.mod_eq_of_lt (by omega), Nat.mod_eq_of_lt (by omega), ← h, wrap_in ⟨by omega, by omega⟩]
def wN (D : List UInt8) : Nat → Nat
  | 0 => 0
  | k + 1 => wN D k * 256 + (D.getD k 0).toNat
theorem wN_lt (D : List UInt8) : ∀ k, wN D k < 256 ^ k
  | 0 => Nat.lt_of_lt_of_eq Nat.zero_lt_one (Nat.pow_zero 256).symm
  | k + 1 => by
    have h := wN_lt D k
    have h2 := (D.getD k 0).toNat_lt
    unfold wN
    rw [Nat.pow_succ]
    omega
theorem wordI_eq (D : List UInt8) : wordI D = ((wN D 6 : Nat) : Int) := by
  unfold wordI
  simp only [wN, Nat.zero_mul, Nat.zero_add]
theorem word_ok (seed : List UInt8) (hs : seed.length ≤ 32) (path : List Int) (hp : path.length ≤ 8) (hI : ∀ i, I64 (path.getD i 0)) (t : Int) (ht : I64 t) : Ok Tryd.prog 91 gK [] (.pair (.str seed) (.pair (liV path) (.pair (.int .i64 t) .nul))) (fun r h' => r = .int .i64 (drw seed path t) ∧ h' = []) := by
  have c1 := cloneI_ok path (by omega)
  have hl : (path ++ [t]).length = path.length + 1 := by rw [List.length_append]; rfl
  have c2 := wireInts_ok false (path ++ [t]) (by omega) (snoc_I64 hI ht)
  have hb := intsN_all (path ++ [t]) ▸ intsN_len (path ++ [t]) (path ++ [t]).length
  have hps := parts2_sz seed (intsB (path ++ [t]))
  have c3 := of_ok 8 [seed, intsB (path ++ [t])] (by decide) (by simp) (by omega)
  have hsl := Sha.sum_length (inputB 8 [seed, intsB (path ++ [t])])
  show Ok _ _ _ _ _ (fun r h' => r = .int .i64 (wordI (Sha.sum (inputB 8 [seed, intsB (path ++ [t])]))) ∧ h' = [])
  generalize Sha.sum (inputB 8 [seed, intsB (path ++ [t])]) = D at *
  generalize hZ : intsB (path ++ [t]) = Z at *
  refine Ok.of_vc tt_ok Tryd.func91 rfl rfl (by show 3 ≤ _; decide) 0 (fun i av h => by cases h) fun c0 => ?_
  repeat' (first | (refine SS_ ?_) | (refine Seq.callo false [] [(0, 0)] (.sl 0 [] 1 0 path.length) ([(0, liO path)]) 1 (c1) Tryd.func25 gK_ok subG.nil (by rfl) (by rfl) rfl rfl rfl rfl rfl (by rfl) rfl (by rfl) (by rfl) (by rfl) (by rfl) VW_ NI_ R_ (noFrL_ok NI_) BK_ ?_) | fail)
  refine Seq.conv (s' := ⟨[(16, .sl 2 [] 1 0 (path ++ [t]).length), (11, .str seed)], [(2, .arr (path ++ [t]).length 1 (fun i => .int .i64 ((path ++ [t]).getD i 0)))], gK, 3⟩) (by
    rw [hl]
    (refine Sim.less [] (by rfl) ?_ ?_ <;> (repeat' (first | (exact EnvLe.nil) | (exact HeapLe.nil) | (with_reducible apply EnvLe.cons) | (with_reducible apply HeapLe.cons) | (exact rfl) | (exact ⟨rfl, rfl⟩) | ((refine RelA.arr ?_; intro i hi)) | fail)) <;> (try with_reducible refine Keep.mk ?_))
    exact rel_snocG (G := AV.int .i64) (fun e => NI_) hi) ?_
  repeat' (first | (refine SS_ ?_) | (refine Seq.str (Z) tt_ok (by rfl) (by rfl) (by rfl) (by rfl) (by rfl) (by (first | exact trivial | exact u8_in _ rfl | exact u32_in _ rfl | ((with_reducible refine AllP.guard ?_); simp only [AllP, inI, fitV, maxK, inK, inbL, inb, List.append, List.cons_append, List.nil_append, true_and, and_true]; first | done | omega))) (by rfl) (.inl rfl) (by rfl) rfl (rfl) (fun i hi => by first | exact rfl | simp only [Nat.zero_add]) ?_) | (refine Seq.callq true (c2) Tryd.func94 GG_ SG_ (by rfl) rfl rfl rfl (by rfl) rfl VW_ NI_ NI_ FR_ ?_) | (refine Seq.callq true (c3) Tryd.func93 GG_ SG_ (by rfl) rfl rfl rfl (by rfl) rfl VW_ NI_ NI_ FR_ ?_) | fail)
  refine VC.loop (fun k : Nat => ⟨[(23, .int .i64 (k : Nat)), (22, .int .i64 6), (21, .sl 4 [] 1 0 6), (8, .int .i64 (wN D k : Nat)), (7, .ptr 4 [])], [(4, u8A 16 D)], gK, 5⟩) (fun k => k ≤ 6) (fun k => 6 - k) 0 (by omega) (by
    rw [show ((wN D 0 : Nat) : Int) = 0 from rfl]
    exact (Sim.less [] (by rfl) R_ R_)) fun k hk => ?_
  have hlt := wN_lt D k
  by_cases hkl : k < 6
  · have h4 : wN D k < 1099511627776 := Nat.lt_of_lt_of_le hlt (Nat.pow_le_pow_right (n := 256) (by decide) (show k ≤ 5 by omega))
    have hb2 := (D.getD k 0).toNat_lt
    have ho := or_shl8 (wN D k) (D.getD k 0).toNat h4 hb2
    have hnx : wN D (k + 1) = wN D k * 256 + (D.getD k 0).toNat := rfl
    have hk0 : 0 + ((k : Nat) : Int).toNat = k := by omega
    rw [← hnx] at ho
    repeat' (first | (refine SS_ ?_) | (refine VC.litT (by rfl) LTR_ ?_) | fail)
    refine ⟨k + 1, by omega, by omega, ?_⟩
    rw [hk0, ho]
    exact (Sim.less [] (by rfl) R_ R_)
  · obtain rfl : k = 6 := by omega
    repeat' (first | (refine SS_ ?_) | (refine VC.litF (by rfl) LFA_ ?_) | (((refine retQ_ok (by rfl) [] nil_sub ⟨?_, rfl⟩); try rfl)) | fail)
    rw [wordI_eq]
end Go.Proofs.YtdbebdjnpckfdaaDoor
