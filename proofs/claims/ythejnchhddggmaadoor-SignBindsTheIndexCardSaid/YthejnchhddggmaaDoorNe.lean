
/- The digits of a digest. -/
import Derived.Test.YthejnchhddggmaaDoorNd
set_option linter.unusedSimpArgs false
set_option linter.unusedVariables false
namespace Go.Sg
/-- A digit of the digest, the sum of what they lack, a digit of both. -/
def dg (d : List UInt8) (j : Nat) : Int := (((d.getD (j / 4) 0).toNat / 4 ^ (3 - j % 4) % 4 : Nat) : Int)
def ds (d : List UInt8) : Nat → Int
  | 0 => 0
  | n + 1 => ds d n + (3 - dg d n)
def dig (d : List UInt8) (j : Nat) : Int := if j < 64 then dg d j else ds d 64 / 4 ^ (67 - j) % 4
def digN (d : List UInt8) (n : Nat) : List Int := (List.range n).map (dig d)
theorem dg_le (d : List UInt8) (j : Nat) : 0 ≤ dg d j ∧ dg d j ≤ 3 := by unfold dg; omega
theorem ds_le (d : List UInt8) : ∀ n, 0 ≤ ds d n ∧ ds d n ≤ 3 * n
  | 0 => by unfold ds; omega
  | n + 1 => by have := ds_le d n; have := dg_le d n; unfold ds; omega
theorem digN_length (d : List UInt8) (n : Nat) : (digN d n).length = n := by unfold digN; rw [List.length_map, List.length_range]
theorem digN_get (d : List UInt8) (n j : Nat) (h : j < n) : (digN d n).getD j 0 = dig d j := by
  unfold digN; rw [List.getD_eq_getElem?_getD, List.getElem?_map, List.getElem?_range h]; rfl
theorem digN_succ (d : List UInt8) (n : Nat) : digN d (n + 1) = digN d n ++ [dig d n] := by unfold digN; rw [List.range_succ, List.map_append]; rfl
theorem dig_le (d : List UInt8) (j : Nat) : 0 ≤ dig d j ∧ dig d j ≤ 3 := by
  unfold dig
  split
  · exact dg_le d j
  · have : 0 ≤ ds d 64 / 4 ^ (67 - j) := Int.ediv_nonneg (ds_le d 64).1 (by exact_mod_cast Nat.zero_le _)
    omega
/-- While they are found: the first m, then the last k. -/
def digM (d : List UInt8) (m k j : Nat) : Int := if j < m ∨ 68 - k ≤ j then dig d j else 0
end Go.Sg
namespace Go.Proofs.YthejnchhddggmaaDoor
open Go.V Go.RowKit Go.U Go.L Go.Lx Go.Sg
set_option maxRecDepth 10000
set_option maxHeartbeats 4000000
theorem shr_dig (d : List UInt8) (i : Nat) : ∃ Y : Nat, (((d.getD (((i : Nat) : Int) / 4).toNat 0).toNat : Nat) : Int).fdiv (2 ^ min (6 - 2 * (((i : Nat) : Int) % 4)).toNat IntKind.u8.bits) = (Y : Int) ∧ Y ≤ 255 ∧ dg d i = ((Y % 4 : Nat) : Int) := by
  have e1 : (((i : Nat) : Int) / 4).toNat = i / 4 := by omega
  have e2 : min (6 - 2 * (((i : Nat) : Int) % 4)).toNat IntKind.u8.bits = 2 * (3 - i % 4) := by
    show min _ 8 = _; omega
  have hx := (d.getD (i / 4) 0).toNat_lt
  refine ⟨(d.getD (i / 4) 0).toNat / 4 ^ (3 - i % 4), ?_, ?_, rfl⟩
  · rw [e1, e2, fdiv_pow, Nat.pow_mul]
  · have := Nat.div_le_self (d.getD (i / 4) 0).toNat (4 ^ (3 - i % 4)); omega
theorem ds_pow (S : Int) (h : 0 ≤ S ∧ S ≤ 192) : ∀ m : Nat, 0 ≤ S / 4 ^ m ∧ S / 4 ^ m ≤ 192 ∧ S / 4 ^ (m + 1) = S / 4 ^ m / 4
  | 0 => by simp; omega
  | m + 1 => by
    obtain ⟨h1, h2, h3⟩ := ds_pow S h m
    refine ⟨by omega, by omega, ?_⟩
    have e : (4 : Int) ^ (m + 1 + 1) = 4 ^ (m + 1) * 4 := Int.pow_succ _ _
    have hp : (0 : Int) ≤ 4 ^ (m + 1) := Int.le_of_lt (Int.pow_pos (by decide))
    rw [e]
    first
      | rw [Int.ediv_ediv_of_nonneg hp]
      | rw [Int.ediv_ediv_eq_ediv_mul _ hp]
theorem sDigits_own (d : List UInt8) (hd : d.length = 16) : Ok Tryd.prog 10 [] [] (.pair (u8A 16 d) .nul) (fun r h' => r = .sl 1 [] 1 0 68 ∧ h' = [(1, .arr 68 1 (fun j => .int .i64 (dig d j)))]) := by
  refine Ok.of_vcC tt_ok Tryd.func10 rfl rfl (by show 1 ≤ _; decide) 0 (hlt_ok (by rfl)) fun c0 => ?_
  repeat' (first | (refine SS_ ?_) | fail)
  refine VC.loop (fun i : Nat => ⟨[(7, .int .i64 (i : Nat)), (4, .int .i64 (ds d i)), (3, .ptr 1 []), (1, .ptr 0 [])], [(0, u8A 16 d), (1, .arr 68 1 (fun j => .int .i64 (digM d i 0 j)))], [], 2⟩) (fun i => i ≤ 64) (fun i => 64 - i) 0 (by omega) (by
    (refine Sim.less [] (by rfl) ?_ ?_ <;> (repeat' (first | (exact EnvLe.nil) | (exact HeapLe.nil) | (with_reducible apply EnvLe.cons) | (with_reducible apply HeapLe.cons) | ((with_reducible refine RelA.int ?_; first | (refine Keep.mk ?_; first | with_reducible rfl | omega | decide) | skip)) | (exact rfl) | (exact ⟨rfl, rfl⟩) | ((refine RelA.arr ?_; intro i hi)) | fail)) <;> (try with_reducible refine Keep.mk ?_))
    · rfl
    · rw [show digM d 0 0 i = 0 by unfold digM; rw [if_neg (by omega)]]; exact rfl) fun q hq => ?_
  by_cases hik : q < 64
  · obtain ⟨Y, y1, y2, y3⟩ := shr_dig d q
    have hds : ds d (q + 1) = ds d q + (3 - dg d q) := rfl
    have hdl := ds_le d q
    generalize hS : ds d (q + 1) = S1 at *
    generalize ds d q = S0 at *
    have hM : digM d (q + 1) 0 ((q : Nat) : Int).toNat = dg d q := by
      rw [Int.toNat_natCast]; unfold digM dig; rw [if_pos (by omega), if_pos (by omega)]
    repeat' (first | (refine SS_ ?_) | (refine VC.litT (by rfl) LTR_ ?_) | fail)
    refine Seq.conv (s' := ⟨[(25, .ptr 1 [Step.idx ((q : Nat) : Int).toNat 1]), (23, .int .i64 S0), (7, .int .i64 (q : Nat)), (3, .ptr 1 []), (1, .ptr 0 [])], [(0, u8A 16 d), (1, .arr 68 1 (fun j => .int .i64 (digM d (q + 1) 0 j)))], [], 2⟩) (by
      (refine Sim.less [] (by rfl) ?_ ?_ <;> (repeat' (first | (exact EnvLe.nil) | (exact HeapLe.nil) | (with_reducible apply EnvLe.cons) | (with_reducible apply HeapLe.cons) | ((with_reducible refine RelA.int ?_; first | (refine Keep.mk ?_; first | with_reducible rfl | omega | decide) | skip)) | (exact rfl) | (exact ⟨rfl, rfl⟩) | ((with_reducible refine RelA.arr ?_; intro i hi)) | ((refine RelA.arr ?_; intro i hi)) | fail)) <;> (try with_reducible refine Keep.mk ?_))
      by_cases e : i = ((q : Nat) : Int).toNat
      · rw [bif_eq e, e, hM, y3, y1]; exact R_
      · rw [bif_ne e, show digM d (q + 1) 0 i = digM d q 0 i by
          rw [Int.toNat_natCast] at e
          unfold digM
          by_cases h : i < q
          · rw [if_pos (by omega), if_pos (by omega)]
          · rw [if_neg (by omega), if_neg (by omega)]]
        exact R_) ?_
    repeat' (first | (refine SS_ ?_) | fail)
    refine ⟨q + 1, by omega, by omega, ?_⟩
    rw [hS]
    exact (Sim.less [] (by rfl) R_ R_)
  · obtain rfl : q = 64 := by omega
    have hds := ds_le d 64
    have hS := ds_pow (ds d 64) (by omega)
    repeat' (first | (refine SS_ ?_) | (refine VC.litF (by rfl) LFA_ ?_) | fail)
    refine VC.loop (fun m : Nat => ⟨[(6, .int .i64 (67 - (m : Int))), (4, .int .i64 (ds d 64 / 4 ^ m)), (3, .ptr 1 []), (1, .ptr 0 [])], [(0, u8A 16 d), (1, .arr 68 1 (fun j => .int .i64 (digM d 64 m j)))], [], 2⟩) (fun m => m ≤ 4) (fun m => 4 - m) 0 (by omega) (by
      exact (Sim.less [] (by rfl) R_ R_)) fun q hq => ?_
    by_cases hik : q < 4
    · obtain ⟨h1, h2, h3⟩ := hS q
      have hM : digM d 64 (q + 1) (67 - (q : Int)).toNat = ds d 64 / 4 ^ q % 4 := by
        rw [show (67 - (q : Int)).toNat = 67 - q by omega]
        unfold digM dig
        rw [if_pos (by omega), if_neg (by omega), show 67 - (67 - q) = q by omega]
      generalize hS1 : ds d 64 / 4 ^ (q + 1) = S1 at *
      generalize ds d 64 / 4 ^ q = S0 at *
      repeat' (first | (refine SS_ ?_) | (refine VC.litT (by rfl) LTR_ ?_) | fail)
      refine ⟨q + 1, by omega, by omega, ?_⟩
      rw [hS1]
      (refine Sim.less [] (by rfl) ?_ ?_ <;> (repeat' (first | (exact EnvLe.nil) | (exact HeapLe.nil) | (with_reducible apply EnvLe.cons) | (with_reducible apply HeapLe.cons) | ((with_reducible refine RelA.int ?_; first | (refine Keep.mk ?_; first | with_reducible rfl | omega | decide) | skip)) | (exact rfl) | (exact ⟨rfl, rfl⟩) | ((with_reducible refine RelA.arr ?_; intro i hi)) | ((refine RelA.arr ?_; intro i hi)) | fail)) <;> (try with_reducible refine Keep.mk ?_))
      by_cases e : i = (67 - (q : Int)).toNat
      · rw [bif_eq e, e, hM]; exact R_
      · rw [bif_ne e, show digM d 64 (q + 1) i = digM d 64 q i by
          unfold digM
          by_cases h : i < 64 ∨ 68 - q ≤ i
          · rw [if_pos (by omega), if_pos h]
          · rw [if_neg (by omega), if_neg h]]
        exact R_
    · obtain rfl : q = 4 := by omega
      have hA : ∀ j, digM d 64 4 j = dig d j := fun j => if_pos (by omega)
      simp only [hA]
      repeat' (first | (refine SS_ ?_) | (refine VC.litF (by rfl) LFA_ ?_) | fail)
      (refine retC_mk ([(2, .sl 1 [] 1 0 68)]) ([(1, .arr 68 1 (fun j => .int .i64 (dig d j)))]) 2 (Sim.less [] (by rfl) R_ R_) (retQ_ok (by rfl) ([(1, .arr 68 1 (fun j => .int .i64 (dig d j)))]) (fun i av h => h) ⟨?_, ?_⟩)) <;> rfl
theorem sDigits_ok (d : List UInt8) (hd : d.length = 16) : Ok Tryd.prog 10 [] [] (.pair (u8A 16 d) .nul) (fun r h' => r = .rsl true 68 1 (fun j => .int .i64 (dig d j)) ∧ h' = []) :=
  (sDigits_own d hd).still fun r h' h => by
    obtain ⟨rfl, rfl⟩ := h
    exact ⟨_, ViewT.sl rfl rfl trivial (by decide) rfl fun i hi => ViewT.rel (by rw [Nat.zero_add]; exact rfl), rfl, rfl⟩
theorem quart (x : Nat) (hx : x ≤ 255) : (x : Int) / 64 = ((x / 4 ^ 3 % 4 : Nat) : Int) ∧ (x : Int) / 16 % 4 = ((x / 4 ^ 2 % 4 : Nat) : Int) ∧ (x : Int) / 4 % 4 = ((x / 4 ^ 1 % 4 : Nat) : Int) ∧ (x : Int) % 4 = ((x / 4 ^ 0 % 4 : Nat) : Int) := by
  refine ⟨?_, ?_, ?_, ?_⟩ <;> simp <;> omega
theorem rDigits_own (d : List UInt8) (hd : d.length = 16) : Ok Tryd.prog 11 [] [] (.pair (u8A 16 d) .nul) (fun r h' => r = .sl 1 [] 1 0 68 ∧ h' = [(1, .arr 68 1 (fun j => .int .i64 ((digN d 68).getD j 0)))]) := by
  refine Ok.of_vcC tt_ok Tryd.func11 rfl rfl (by show 1 ≤ _; decide) 0 (hlt_ok (by rfl)) fun c0 => ?_
  repeat' (first | (refine SS_ ?_) | fail)
  refine VC.conv (Sim.ghost 3 1 (fun j => .int .i64 (([] : List Int).getD j 0)) (by rfl) (.inl rfl)) ?_
  refine VC.loop (fun i : Nat => ⟨[(5, .int .i64 (i : Nat)), (4, .int .i64 (ds d (4 * i))), (3, .sl 0 [] 1 0 (4 * i)), (1, .ptr 1 [])], [(1, u8A 16 d), (0, .arr (4 * i) 1 (fun j => .int .i64 ((digN d (4 * i)).getD j 0)))], [], 2⟩) (fun i => i ≤ 16) (fun i => 16 - i) 0 (by omega) (by
    rw [Nat.mul_zero]
    (refine Sim.less [(1, 0), (0, 1)] (by rfl) ?_ ?_ <;> (repeat' (first | (exact EnvLe.nil) | (exact HeapLe.nil) | (with_reducible apply EnvLe.cons) | (with_reducible apply HeapLe.cons) | ((with_reducible refine RelA.int ?_; first | (refine Keep.mk ?_; first | with_reducible rfl | omega | decide) | skip)) | (exact rfl) | (exact ⟨rfl, rfl⟩) | ((with_reducible refine RelA.arr ?_; intro i hi)) | ((refine RelA.arr ?_; intro i hi)) | fail)) <;> (try with_reducible refine Keep.mk ?_))
    · rfl) fun q hq => ?_
  by_cases hik : q < 16
  · have hx := (d.getD ((q : Nat) : Int).toNat 0).toNat_lt
    obtain ⟨x0, x1, x2, x3⟩ := quart (d.getD ((q : Nat) : Int).toNat 0).toNat (by omega)
    have hdg : ∀ j, j < 4 → dg d (4 * q + j) = (((d.getD ((q : Nat) : Int).toNat 0).toNat / 4 ^ (3 - j) % 4 : Nat) : Int) := fun j hj => by
      unfold dg
      rw [Int.toNat_natCast, show (4 * q + j) / 4 = q by omega, show (4 * q + j) % 4 = j by omega]
    repeat' (first | (refine SS_ ?_) | (refine VC.litT (by rfl) LTR_ ?_) | fail)
    refine VC.loop (fun k : Nat => ⟨[(8, .int .i64 (k : Nat)), (7, .sl 2 [] 1 0 4), (5, .int .i64 (q : Nat)), (4, .int .i64 (ds d (4 * q + k))), (3, .sl 0 [] 1 0 (4 * q + k)), (1, .ptr 1 [])], [(2, .arr 4 1 (fun j => .int .i64 (dg d (4 * q + j)))), (1, u8A 16 d), (0, .arr (4 * q + k) 1 (fun j => .int .i64 ((digN d (4 * q + k)).getD j 0)))], [], 3⟩) (fun i => i ≤ 4) (fun i => 4 - i) 0 (by omega) (by
      (refine Sim.less [] (by rfl) ?_ ?_ <;> (repeat' (first | (exact EnvLe.nil) | (exact HeapLe.nil) | (with_reducible apply EnvLe.cons) | (with_reducible apply HeapLe.cons) | ((with_reducible refine RelA.int ?_; first | (refine Keep.mk ?_; first | with_reducible rfl | omega | decide) | skip)) | (exact rfl) | (exact ⟨rfl, rfl⟩) | ((refine RelA.arr ?_; intro i hi)) | fail)) <;> (try with_reducible refine Keep.mk ?_))
      · rfl
      · rw [hdg i hi]
        rcases (by omega : i = 0 ∨ i = 1 ∨ i = 2 ∨ i = 3) with rfl | rfl | rfl | rfl
        · exact RelA.of_eq R_ (congrArg (AV.int .i64) x0)
        · exact RelA.of_eq R_ (congrArg (AV.int .i64) x1)
        · exact RelA.of_eq R_ (congrArg (AV.int .i64) x2)
        · exact RelA.of_eq R_ (congrArg (AV.int .i64) x3)
      · rfl) fun k hk => ?_
    by_cases hkk : k < 4
    · have h1 := dg_le d (4 * q + k)
      have h2 := ds_le d (4 * q + k)
      have h3 : ds d (4 * q + (k + 1)) = ds d (4 * q + k) + (3 - dg d (4 * q + k)) := rfl
      have h4 := digN_succ d (4 * q + k)
      have h5 : dig d (4 * q + k) = dg d (4 * q + k) := if_pos (by omega)
      have h6 : dg d (4 * q + (0 + ((k : Nat) : Int).toNat)) = dg d (4 * q + k) := by rw [Int.toNat_natCast, Nat.zero_add]
      repeat' (first | (refine SS_ ?_) | (refine VC.litT (by rfl) LTR_ ?_) | fail)
      refine ⟨k + 1, by omega, by omega, ?_⟩
      rw [show 4 * q + (k + 1) = 4 * q + k + 1 by omega] at h3 ⊢
      rw [h4, h5]
      (refine Sim.less [(0, 4)] (by rfl) ?_ ?_ <;> (repeat' (first | (exact EnvLe.nil) | (exact HeapLe.nil) | (with_reducible apply EnvLe.cons) | (with_reducible apply HeapLe.cons) | ((with_reducible refine RelA.int ?_; first | (refine Keep.mk ?_; first | with_reducible rfl | omega | decide) | skip)) | (exact rfl) | (exact ⟨rfl, rfl⟩) | ((with_reducible refine RelA.arr ?_; intro i hi)) | ((refine RelA.arr ?_; intro i hi)) | fail)) <;> (try with_reducible refine Keep.mk ?_))
      exact RelA.of_eq (NoId.self trivial) (joinF_snocG (F := AV.int .i64) (digN_length _ _) hi (congrArg (AV.int .i64) h6))
    · obtain rfl : k = 4 := by omega
      repeat' (first | (refine SS_ ?_) | (refine VC.litF (by rfl) LFA_ ?_) | fail)
      refine ⟨q + 1, by omega, by omega, ?_⟩
      rw [show 4 * (q + 1) = 4 * q + 4 by omega]
      exact (Sim.less [] (by rfl) R_ R_)
  · obtain rfl : q = 16 := by omega
    have h2 := ds_le d (4 * 16)
    have hd4 : ∀ j, j < 4 → dig d (64 + j) = ds d (4 * 16) / 4 ^ (3 - j) % 4 := fun j hj => by
      unfold dig
      rw [if_neg (by omega), show 67 - (64 + j) = 3 - j by omega]
    repeat' (first | (refine SS_ ?_) | (refine VC.litF (by rfl) LFA_ ?_) | fail)
    refine retC_conv' (s' := ⟨[(2, .sl 1 [] 1 0 68)], [(1, .arr 68 1 (fun j => .int .i64 ((digN d 68).getD j 0)))], [], 4⟩) (by
      (refine Sim.less [(1, 3)] (by rfl) ?_ ?_ <;> (repeat' (first | (exact EnvLe.nil) | (exact HeapLe.nil) | (with_reducible apply EnvLe.cons) | (with_reducible apply HeapLe.cons) | (exact rfl) | (exact ⟨rfl, rfl⟩) | ((refine RelA.arr ?_; intro i hi)) | fail)) <;> (try with_reducible refine Keep.mk ?_))
      rw [digN_get d 68 i hi]
      rcases Nat.lt_or_ge i 64 with h | h
      · rw [joinF_lt h, digN_get d (4 * 16) i h]; exact R_
      · rw [joinF_ge h]
        obtain ⟨j, rfl⟩ : ∃ j, i = 64 + j := ⟨i - 64, by omega⟩
        rw [hd4 j (by omega), Nat.add_sub_cancel_left]
        have h4 : ds d (4 * 16) / 4 ^ 3 % 4 = ds d (4 * 16) / 64 := by
          have e : (4 : Int) ^ 3 = 64 := by decide
          rw [e]; omega
        have h5 : ds d (4 * 16) / 4 ^ 2 % 4 = ds d (4 * 16) / 16 % 4 := rfl
        have h6 : ds d (4 * 16) / 4 ^ 1 % 4 = ds d (4 * 16) / 4 % 4 := rfl
        have h7 : ds d (4 * 16) / 4 ^ 0 % 4 = ds d (4 * 16) % 4 := by simp
        rcases (by omega : j = 0 ∨ j = 1 ∨ j = 2 ∨ j = 3) with rfl | rfl | rfl | rfl
        · exact RelA.of_eq R_ (congrArg (AV.int .i64) h4.symm)
        · exact RelA.of_eq R_ (congrArg (AV.int .i64) h5.symm)
        · exact RelA.of_eq R_ (congrArg (AV.int .i64) h6.symm)
        · exact RelA.of_eq R_ (congrArg (AV.int .i64) h7.symm)) ?_
    (refine retC_mk ([(2, .sl 1 [] 1 0 68)]) ([(1, .arr 68 1 (fun j => .int .i64 ((digN d 68).getD j 0)))]) 4 (Sim.less [] (by rfl) R_ R_) (retQ_ok (by rfl) ([(1, .arr 68 1 (fun j => .int .i64 ((digN d 68).getD j 0)))]) (fun i av h => h) ⟨?_, ?_⟩)) <;> rfl
theorem rDigits_ok (d : List UInt8) (hd : d.length = 16) : Ok Tryd.prog 11 [] [] (.pair (u8A 16 d) .nul) (fun r h' => r = .rsl true 68 1 (fun j => .int .i64 (dig d j)) ∧ h' = []) :=
  (rDigits_own d hd).still fun r h' h => by
    obtain ⟨rfl, rfl⟩ := h
    refine ⟨.rsl true 68 1 (fun j => .int .i64 (dig d j)), ViewT.sl rfl rfl trivial (by decide) rfl fun i hi => ViewT.rel ?_, rfl, rfl⟩
    rw [Nat.zero_add, digN_get d 68 i hi]
    exact rfl
end Go.Proofs.YthejnchhddggmaaDoor
