
/- A signature is accepted (plain), and what is too long or too short is not. -/
import Derived.Test.YthejnchhddggmaaDoorNp
set_option linter.unusedSimpArgs false
set_option linter.unusedVariables false
namespace Go.Proofs.YthejnchhddggmaaDoor
open Go.V Go.RowKit Go.U Go.L Go.Lx Go.Sg
theorem int_small (i : Nat) (hi : i < 256) : Wire.int (i : Nat) = if i = 0 then [128] else [129, UInt8.ofNat i] := by
  have hm : Wire.mag (i : Nat) = i := by unfold Wire.mag; rw [if_neg (by omega)]; omega
  have hf : Wire.flip (i : Nat) = 0 := by unfold Wire.flip; rw [if_neg (by omega)]
  unfold Wire.int
  rw [hm, hf]
  by_cases h0 : i = 0
  · subst h0; rfl
  · have hn : Wire.nd i = 1 := by unfold Wire.nd; rw [if_neg (by omega), if_pos hi]
    rw [if_neg h0, hn]
    simp [Wire.digs, Wire.dig]
theorem getI_small (i : Nat) (hi : i < 256) (t : List UInt8) : Wire.getI (Wire.int (i : Nat) ++ t) = ((i : Int), (((Wire.int (i : Nat)).length : Nat) : Int), 0) := by
  rw [int_small i hi]
  by_cases h0 : i = 0
  · subst h0
    rw [if_pos rfl]
    have hk : Wire.kOf 128 = 0 := by decide
    have hg : ([128] ++ t).getD 0 0 = (128 : UInt8) := rfl
    unfold Wire.getI
    rw [hg, hk, if_neg (by simp), if_neg (by decide), if_neg (by simp), if_neg (by omega), if_neg (by show ¬ _ ≤ 0; omega)]
    rfl
  · rw [if_neg h0]
    have hk : Wire.kOf 129 = 1 := by decide
    have hf : Wire.fl 129 = 0 := by decide
    have hg : ([129, UInt8.ofNat i] ++ t).getD 0 0 = (129 : UInt8) := rfl
    have hg1 : ([129, UInt8.ofNat i] ++ t).getD 1 0 = UInt8.ofNat i := rfl
    have hv : Wire.valI 0 ([129, UInt8.ofNat i] ++ t) 1 = i := by
      rw [Wire.valI_succ]
      show 0 * 256 + (([129, UInt8.ofNat i] ++ t).getD 1 0 ^^^ 0).toNat = i
      rw [hg1, Wire.xor0, UInt8.toNat_ofNat']; omega
    unfold Wire.getI
    rw [hg, hk, hf, hg1, hv, if_neg (by simp), if_neg (by decide), if_neg (by simp), if_neg (by rw [Wire.xor0, UInt8.toNat_ofNat']; omega), if_neg (by omega)]
    rfl
theorem catV_get (V : Nat → List UInt8) (hV : ∀ i, (V i).length = 16) (c j : Nat) (hj : j < 16) : ∀ n, c < n → (catV V n).getD (16 * c + j) 0 = (V c).getD j 0
  | 0, h => by omega
  | n + 1, h => by
    have hl := catV_length V hV n
    rw [catV_succ]
    by_cases hc : c < n
    · rw [app_lt (by omega)]; exact catV_get V hV c j hj n hc
    · obtain rfl : c = n := by omega
      rw [List.getD_eq_getElem?_getD, List.getElem?_append_right (by omega), List.getD_eq_getElem?_getD, show 16 * c + j - (catV V c).length = j by omega]
theorem valR_catl (V T : Nat → List UInt8) (hV : ∀ i, (V i).length = 16) (n h c : Nat) (hc : c < n) : valR (catV V n ++ catV T h) c = V c := by
  have hl := catV_length V hV n
  refine bytes_eq (by rw [valR_length, hV]) fun j hj => ?_
  rw [valR_length] at hj
  rw [valR_get _ _ _ hj, app_lt (by omega), catV_get V hV c j hj n hc]
theorem valR_catr (V T : Nat → List UInt8) (hV : ∀ i, (V i).length = 16) (hT : ∀ i, (T i).length = 16) (n h c : Nat) (hc : c < h) : valR (catV V n ++ catV T h) (n + c) = T c := by
  have hl := catV_length V hV n
  refine bytes_eq (by rw [valR_length, hT]) fun j hj => ?_
  rw [valR_length] at hj
  rw [valR_get _ _ _ hj, List.getD_eq_getElem?_getD, List.getElem?_append_right (by omega), ← List.getD_eq_getElem?_getD, show 16 * (n + c) + j - (catV V n).length = 16 * c + j by omega, catV_get T hT c j hj h hc]
theorem advN_add (i c t : Int) (m : Nat) (v : List UInt8) : ∀ n, advN i c (t + m) n (advN i c t m v) = advN i c t (m + n) v
  | 0 => rfl
  | n + 1 => by
    have ih := advN_add i c t m v n
    show digD 5 [intsB [i, c, t + m + n], advN i c (t + m) n (advN i c t m v)] = digD 5 [intsB [i, c, t + ((m + n : Nat) : Int)], advN i c t (m + n) v]
    rw [ih, show t + m + (n : Int) = t + ((m + n : Nat) : Int) by push_cast; omega]
/-- The rest of a signature. -/
def restS (seed : List UInt8) (h i : Nat) (m : List UInt8) : List UInt8 := catV (valS seed i (msgD (ndD seed h 0) (i : Nat) m)) 68 ++ catV (fun l => ndD seed l (sib i l : Nat)) h
theorem sigB_rest (seed : List UInt8) (h i : Nat) (m : List UInt8) : sigB seed h i m = Wire.int (i : Nat) ++ restS seed h i m := List.append_assoc _ _ _
theorem restS_length (seed : List UInt8) (h i : Nat) (m : List UInt8) : (restS seed h i m).length = (68 + h) * 16 := by
  unfold restS
  rw [List.length_append, catV_length _ (fun c => valS_length _ _ _ _), catV_length _ (fun c => ndD_length _ _ _)]; omega
theorem valQ_rest (seed : List UInt8) (h i : Nat) (m : List UInt8) (c : Nat) (hc : c < 68) : valQ (i : Nat) (msgD (ndD seed h 0) (i : Nat) m) (restS seed h i m) c = valN seed (i : Nat) c := by
  have hd := dig_le (msgD (ndD seed h 0) (i : Nat) m) c
  unfold valQ restS
  rw [valR_catl _ _ (fun c => valS_length _ _ _ _) 68 h c hc]
  unfold valS valN
  have h1 := advN_add (i : Nat) (c : Nat) 0 (dig (msgD (ndD seed h 0) (i : Nat) m) c).toNat (startD seed (i : Nat) (c : Nat)) (3 - dig (msgD (ndD seed h 0) (i : Nat) m) c).toNat
  rw [Int.zero_add, Int.toNat_of_nonneg hd.1] at h1
  rw [h1]
  congr 1; omega
theorem catV_congr {V W : Nat → List UInt8} : ∀ n, (∀ c, c < n → V c = W c) → catV V n = catV W n
  | 0, _ => rfl
  | n + 1, h => by rw [catV_succ, catV_succ, catV_congr n fun c hc => h c (by omega), h n (by omega)]
theorem upV_rest (seed : List UInt8) (h i : Nat) (m : List UInt8) : ∀ k, k ≤ h → upV i (msgD (ndD seed h 0) (i : Nat) m) (restS seed h i m) k = ndD seed k ((i / 2 ^ k : Nat) : Int)
  | 0, _ => by
    rw [Nat.pow_zero, Nat.div_one]
    show leafV _ = leafV _
    unfold leafV
    rw [catV_congr 68 fun c hc => valQ_rest seed h i m c hc]
  | k + 1, hk => by
    have ih := upV_rest seed h i m k (by omega)
    have hr : valR (restS seed h i m) (68 + k) = ndD seed k (sib i k : Nat) := valR_catr _ _ (fun c => valS_length _ _ _ _) (fun c => ndD_length _ _ _) 68 h k (by omega)
    have e2 : i / 2 ^ (k + 1) = i / 2 ^ k / 2 := by rw [Nat.pow_succ, Nat.div_div_eq_div_mul]
    unfold upV
    rw [ih, hr, e2]
    unfold sib
    generalize i / 2 ^ k = x
    by_cases hx : x % 2 = 1
    · rw [if_pos hx]
      have h1 : x ^^^ 1 = x - 1 := by
        have : x = 2 * (x / 2) + 1 := by omega
        rw [this]
        generalize x / 2 = y
        rw [show 2 * y + 1 ^^^ 1 = 2 * y from ?_]; rfl
        apply Nat.eq_of_testBit_eq; intro b
        rw [Nat.testBit_xor]
        cases b with
        | zero => simp [Nat.testBit_zero]
        | succ b => simp [Nat.testBit_succ]; congr 1; omega
      rw [h1]
      show nodeD _ _ = nodeD _ _
      congr 2 <;> omega
    · rw [if_neg hx]
      have h1 : x ^^^ 1 = x + 1 := by
        have : x = 2 * (x / 2) := by omega
        rw [this]
        generalize x / 2 = y
        apply Nat.eq_of_testBit_eq; intro b
        rw [Nat.testBit_xor]
        cases b with
        | zero => simp [Nat.testBit_zero]
        | succ b => simp [Nat.testBit_succ]; congr 1; omega
      rw [h1]
      show nodeD _ _ = nodeD _ _
      congr 2 <;> omega
theorem verE_rest (P : List UInt8) (h i : Nat) (hh : h ≤ 6) (hi : i < 2 ^ h) (msg R : List UInt8) (hm : msg.length ≤ 1048576) : verE P (h : Nat) msg (Wire.int (i : Nat) ++ R) = if R.length = (68 + h) * 16 then (if upV i (msgD P (i : Nat) msg) R h = P then ((i : Int), 0) else (0, 10)) else (0, 2) := by
  have h64 : 2 ^ h ≤ 2 ^ 6 := Nat.pow_le_pow_right (by decide) hh
  have e64 : (2 : Nat) ^ 6 = 64 := by decide
  have hg := getI_small i (by omega) R
  unfold verE
  rw [hg, if_neg (fun e => e ⟨by omega, by omega⟩), if_neg (by omega), if_neg (fun e => e rfl)]
  simp only [Int.toNat_natCast, List.drop_left]
  by_cases hR : R.length = (68 + h) * 16
  · rw [if_pos hR, if_neg (by omega)]
  · rw [if_neg hR, if_pos (by omega)]
theorem verE_sign (seed : List UInt8) (h i : Nat) (hh : h ≤ 6) (hi : i < 2 ^ h) (msg : List UInt8) (hm : msg.length ≤ 1048576) : verE (ndD seed h 0) (h : Nat) msg (sigB seed h i msg) = ((i : Int), 0) := by
  rw [sigB_rest, verE_rest _ h i hh hi msg _ hm, if_pos (restS_length _ _ _ _), upV_rest seed h i msg h (Nat.le_refl _), Nat.div_eq_of_lt hi, if_pos (show ndD seed h ((0 : Nat) : Int) = ndD seed h 0 from rfl)]
end Go.Proofs.YthejnchhddggmaaDoor
