
/- Chains, starts, nodes and what is signed: package sign and the reference. -/
import Derived.Test.YthejnchhddggmaaDoorNe
import Derived.Test.YthejnchhddggmaaDoorTb
import Derived.Test.YthejnchhddggmaaDoorFo
set_option linter.unusedSimpArgs false
set_option linter.unusedVariables false
namespace Go.Proofs.YthejnchhddggmaaDoor
open Go.V Go.RowKit Go.U Go.L Go.Lx Go.Sg
set_option maxRecDepth 10000
set_option maxHeartbeats 4000000
theorem refOfD_ok (t : Int) (ps : List (List UInt8)) (ht : -9223372036854775808 ≤ t ∧ t ≤ 9223372036854775807) (hl : ps.length ≤ 1000000000) (hps : (partsB ps).length ≤ 100000000000) : Ok Tryd.prog 35 gR [] (.pair (.int .i64 t) (.pair (strs ps) .nul)) (fun r h' => r = digA (digD t ps) ∧ h' = []) :=
  (refOf_ok t ps ht hl hps).res (rep_arr_eq fun i hi => by unfold digD; rfl)
theorem textD_ok (a : List UInt8) (ha : a.length = 16) : Ok Tryd.prog 31 [] [] (.pair (digA a) .nul) (fun r h' => r = .str a ∧ h' = []) := text_ok a ha
/-- The value of a chain, so many steps behind the height t. -/
def advN (i c t : Int) : Nat → List UInt8 → List UInt8
  | 0, v => v
  | n + 1, v => digD 5 [intsB [i, c, t + n], advN i c t n v]
theorem advN_length (i c t : Int) (v : List UInt8) (hv : v.length = 16) : ∀ n, (advN i c t n v).length = 16
  | 0 => hv
  | n + 1 => digD_length _ _
def startD (seed : List UInt8) (i c : Int) : List UInt8 := (macB seed (99 :: 104 :: 97 :: 105 :: 110 :: intsB [i, c])).take 16
theorem macB_length (k t : List UInt8) : (macB k t).length = 32 := rfl
theorem startD_length (seed : List UInt8) (i c : Int) : (startD seed i c).length = 16 := by unfold startD; rw [List.length_take, macB_length]; rfl
theorem intsB_len (l : List Int) : (intsB l).length ≤ 9 + 9 * l.length := by rw [← intsN_all]; exact intsN_len l l.length
theorem parts2_len (a b : List UInt8) : (partsB [a, b]).length ≤ a.length + b.length + 18 := by
  have := Wire.bytes_length a; have := Wire.bytes_length b
  simp only [partsB, List.flatMap_cons, List.flatMap_nil, List.append_nil, List.length_append]; omega
theorem parts1_len (a : List UInt8) : (partsB [a]).length ≤ a.length + 9 := by
  have := Wire.bytes_length a
  simp only [partsB, List.flatMap_cons, List.flatMap_nil, List.append_nil, List.length_append]; omega
theorem parts3_len (a b c : List UInt8) : (partsB [a, b, c]).length ≤ a.length + b.length + c.length + 27 := by
  have := Wire.bytes_length a; have := Wire.bytes_length b; have := Wire.bytes_length c
  simp only [partsB, List.flatMap_cons, List.flatMap_nil, List.append_nil, List.length_append]; omega
theorem adv_ok (i c f t : Int) (v : List UInt8) (hv : v.length = 16) (hi : I64 i) (hc : I64 c) (hf : 0 ≤ f ∧ f ≤ t ∧ t ≤ 1000000) : Ok Tryd.prog 27 gK [] (.pair (.int .i64 i) (.pair (.int .i64 c) (.pair (.int .i64 f) (.pair (.int .i64 t) (.pair (digA v) .nul))))) (fun r h' => r = digA (advN i c f (t - f).toNat v) ∧ h' = []) := by
  refine Ok.of_vc tt_ok Tryd.func27 rfl rfl (by show 5 ≤ _; decide) 0 (fun i av h => by cases h) fun c0 => ?_
  repeat' (first | (refine SS_ ?_) | fail)
  refine VC.loop (fun k : Nat => ⟨[(11, .int .i64 (f + (k : Int))), (10, .ptr 1 []), (9, .ptr 0 []), (3, .int .i64 t), (1, .int .i64 c), (0, .int .i64 i)], [(0, digA (advN i c f k v)), (1, .arr 16 1 (fun _ => .int .u8 0))], gK, 2⟩) (fun k => k ≤ (t - f).toNat) (fun k => (t - f).toNat - k) 0 (by omega) (by rw [show advN i c f 0 v = v from rfl]; exact (Sim.less [] (by rfl) R_ R_)) fun k hk => ?_
  have hl := advN_length i c f v hv k
  have hnx : advN i c f (k + 1) v = digD 5 [intsB [i, c, f + k], advN i c f k v] := rfl
  by_cases hkk : k < (t - f).toNat
  · have c1 := sInts_ok [i, c, f + k] (by simp) (fun j => by
      rcases (by omega : j = 0 ∨ j = 1 ∨ j = 2 ∨ 3 ≤ j) with rfl | rfl | rfl | h
      · exact hi
      · exact hc
      · exact ⟨show _ ≤ f + (k : Int) by omega, show f + (k : Int) ≤ _ by omega⟩
      · rw [List.getD_eq_getElem?_getD, List.getElem?_eq_none (by simpa using h)]; exact ⟨by decide, by decide⟩)
    have h2 := intsB_len [i, c, f + k]
    have h3 := parts2_len (intsB [i, c, f + k]) (advN i c f k v)
    have h4 : [i, c, f + (k : Int)].length = 3 := rfl
    have c2 := ofD_ok 5 [intsB [i, c, f + k], advN i c f k v] (by decide) (by simp) (by omega)
    rw [← hnx] at c2
    generalize hY : advN i c f (k + 1) v = Y at *
    generalize advN i c f k v = X at *
    generalize hZ : intsB [i, c, f + (k : Int)] = Z at *
    repeat' (first | (refine SS_ ?_) | (refine VC.drawm (id := 4) [(0, 0), (1, 0), (2, 0), (3, 7), (4, 15), (5, 0), (6, 32), (7, 127), (8, 255)] [9] (by rfl) (by kernel_rfl) (by rfl) ?_) | (refine DSeq.str (X) tt_ok (by rfl) (fastE (by rfl)) (fastH (by rfl)) (by rfl) (by rfl) (by rfl) (by rfl) (by rfl) (by (first | exact trivial | exact u8_in _ rfl | exact u32_in _ rfl | ((with_reducible refine AllP.guard ?_); simp only [AllP, inI, fitV, maxK, inK, inbL, inb, List.append, List.cons_append, List.nil_append, true_and, and_true]; first | done | omega))) (by rfl) (.inl rfl) (by rfl) (by rfl) (hl) (fun i hi => by first | exact rfl | (simp only [Nat.zero_add]; done) | fail) ?_) | (refine VC.litT (by rfl) LTR_ ?_) | (refine DD_ ?_) | (refine DSeq.callq true (c1) Tryd.func48 GG_ SG_ (by rfl) (fastE (by rfl)) (fastH (by rfl)) (by rfl) rfl rfl rfl (by rfl) (by rfl) VW_ NI_ NI_ FR_ ?_) | (refine DSeq.callq true (c2) Tryd.func34 GG_ SG_ (by rfl) (fastE (by rfl)) (fastH (by rfl)) (by rfl) rfl rfl rfl (by rfl) (by rfl) VW_ NI_ NI_ FR_ ?_) | fail)
    refine ⟨k + 1, by omega, by omega, ?_⟩
    rw [hY]
    exact (Sim.less [] (by rfl) R_ R_)
  · obtain rfl : k = (t - f).toNat := by omega
    generalize advN i c f (t - f).toNat v = X at *
    repeat' (first | (refine SS_ ?_) | (refine VC.litF (by rfl) LFA_ ?_) | (((refine retQ_ok (by rfl) [] nil_sub ⟨?_, rfl⟩); try rfl)) | fail)
theorem radv_ok (i c f t : Int) (v : List UInt8) (hv : v.length = 16) (hi : I64 i) (hc : I64 c) (hf : 0 ≤ f ∧ f ≤ t ∧ t ≤ 1000000) : Ok Tryd.prog 32 gR [] (.pair (.int .i64 i) (.pair (.int .i64 c) (.pair (.int .i64 f) (.pair (.int .i64 t) (.pair (digA v) .nul))))) (fun r h' => r = digA (advN i c f (t - f).toNat v) ∧ h' = []) := by
  refine Ok.of_vc tt_ok Tryd.func32 rfl rfl (by show 5 ≤ _; decide) 0 (fun i av h => by cases h) fun c0 => ?_
  repeat' (first | (refine SS_ ?_) | fail)
  refine VC.loop (fun k : Nat => ⟨[(11, .int .i64 (f + (k : Int))), (10, .ptr 1 []), (9, .ptr 0 []), (3, .int .i64 t), (1, .int .i64 c), (0, .int .i64 i)], [(0, digA (advN i c f k v)), (1, .arr 16 1 (fun _ => .int .u8 0))], gR, 2⟩) (fun k => k ≤ (t - f).toNat) (fun k => (t - f).toNat - k) 0 (by omega) (by rw [show advN i c f 0 v = v from rfl]; exact (Sim.less [] (by rfl) R_ R_)) fun k hk => ?_
  have hl := advN_length i c f v hv k
  have hnx : advN i c f (k + 1) v = digD 5 [intsB [i, c, f + k], advN i c f k v] := rfl
  by_cases hkk : k < (t - f).toNat
  · have c1 := rInts_ok [i, c, f + k] (by simp) (fun j => by
      rcases (by omega : j = 0 ∨ j = 1 ∨ j = 2 ∨ 3 ≤ j) with rfl | rfl | rfl | h
      · exact hi
      · exact hc
      · exact ⟨show _ ≤ f + (k : Int) by omega, show f + (k : Int) ≤ _ by omega⟩
      · rw [List.getD_eq_getElem?_getD, List.getElem?_eq_none (by simpa using h)]; exact ⟨by decide, by decide⟩)
    have h2 := intsB_len [i, c, f + k]
    have h3 := parts2_len (intsB [i, c, f + k]) (advN i c f k v)
    have h4 : [i, c, f + (k : Int)].length = 3 := rfl
    have c2 := refOfD_ok 5 [intsB [i, c, f + k], advN i c f k v] (by decide) (by simp) (by omega)
    have c3 := textD_ok (advN i c f k v) hl
    rw [← hnx] at c2
    generalize hY : advN i c f (k + 1) v = Y at *
    generalize advN i c f k v = X at *
    generalize hZ : intsB [i, c, f + (k : Int)] = Z at *
    repeat' (first | (refine SS_ ?_) | (refine VC.drawm (id := 4) [(0, 0), (1, 0), (2, 0), (3, 7), (4, 15), (5, 0), (6, 63), (7, 127), (8, 255)] [9] (by rfl) (by kernel_rfl) (by rfl) ?_) | (refine VC.litT (by rfl) LTR_ ?_) | (refine DD_ ?_) | (refine DSeq.callq true (c1) Tryd.func50 GG_ SG_ (by rfl) (fastE (by rfl)) (fastH (by rfl)) (by rfl) rfl rfl rfl (by rfl) (by rfl) VW_ NI_ NI_ FR_ ?_) | (refine DSeq.callq true (c3) Tryd.func31 GG_ SG_ (by rfl) (fastE (by rfl)) (fastH (by rfl)) (by rfl) rfl rfl rfl (by rfl) (by rfl) VW_ NI_ NI_ FR_ ?_) | (refine DSeq.callq true (c2) Tryd.func35 GG_ SG_ (by rfl) (fastE (by rfl)) (fastH (by rfl)) (by rfl) rfl rfl rfl (by rfl) (by rfl) VW_ NI_ NI_ FR_ ?_) | fail)
    refine ⟨k + 1, by omega, by omega, ?_⟩
    rw [hY]
    exact (Sim.less [] (by rfl) R_ R_)
  · obtain rfl : k = (t - f).toNat := by omega
    generalize advN i c f (t - f).toNat v = X at *
    repeat' (first | (refine SS_ ?_) | (refine VC.litF (by rfl) LFA_ ?_) | (((refine retQ_ok (by rfl) [] nil_sub ⟨?_, rfl⟩); try rfl)) | fail)
theorem ints2_I {i c : Int} (hi : I64 i) (hc : I64 c) (j : Nat) : I64 ([i, c].getD j 0) := by
  rcases (by omega : j = 0 ∨ j = 1 ∨ 2 ≤ j) with rfl | rfl | h
  · exact hi
  · exact hc
  · rw [List.getD_eq_getElem?_getD, List.getElem?_eq_none (by simpa using h)]; exact ⟨by decide, by decide⟩
theorem start_ok (seed : List UInt8) (hs : seed.length ≤ 1000000) (i c : Int) (hi : I64 i) (hc : I64 c) : Ok Tryd.prog 28 gK [] (.pair (.str seed) (.pair (.int .i64 i) (.pair (.int .i64 c) .nul))) (fun r h' => r = digA (startD seed i c) ∧ h' = []) := by
  have c1 := sInts_ok [i, c] (by simp) (ints2_I hi hc)
  have h1 := intsB_len [i, c]
  have h4 : [i, c].length = 2 := rfl
  have c2 := mac_ok seed (99 :: 104 :: 97 :: 105 :: 110 :: intsB [i, c]) (by omega) (by simp only [List.length_cons]; omega)
  have hm := macB_length seed (99 :: 104 :: 97 :: 105 :: 110 :: intsB [i, c])
  unfold startD
  generalize macB seed (99 :: 104 :: 97 :: 105 :: 110 :: intsB [i, c]) = M at *
  generalize hZ : intsB [i, c] = Z at *
  refine Ok.of_vc tt_ok Tryd.func28 rfl rfl (by show 3 ≤ _; decide) 0 (fun i av h => by cases h) fun c0 => ?_
  repeat' (first | (refine SS_ ?_) | (refine Seq.cat (by rfl) (by rfl) (by rfl) rfl (by simp; omega) ?_ ) | (refine Seq.callq true (c1) Tryd.func48 GG_ SG_ (by rfl) rfl rfl rfl (by rfl) rfl VW_ NI_ NI_ FR_ ?_) | (refine Seq.callq true (c2) Tryd.func49 GG_ SG_ (by rfl) rfl rfl rfl (by rfl) rfl VW_ NI_ NI_ FR_ ?_) | fail)
  refine Seq.same 14 (u' := .str (M.take 16)) (by rfl) rfl ?_
  have hm2 : (M.take 16).length = 16 := by rw [List.length_take]; omega
  generalize M.take 16 = X at *
  repeat' (first | (refine Seq.new1 (conv_strs_ok tt_ok (by rfl) (by rfl) (by rfl) (by rfl) (by omega)) (by rfl) (by rfl) ?_) | (first | with_reducible refine VC.seq ?_ | with_reducible refine VC.block ?_ | with_reducible refine VC.region ?_ | with_reducible refine VC.exit ?_ | with_reducible refine VC.ret ?_ | with_reducible refine VC.skip ?_ | with_reducible refine Seq.nil ?_ | with_reducible refine thenQ_n ?_ | with_reducible refine thenQ_r ?_ | with_reducible refine thenQ_e ?_ | with_reducible refine inQ_n ?_ | with_reducible refine inQ_r ?_ | with_reducible refine inQ_e ?_ | ((with_reducible refine inQ_o ?_ ?_); rfl) | (refine Seq.ev0 true tt_ok (by rfl) (by (first | exact trivial | exact u8_in _ rfl | exact u32_in _ rfl | ((with_reducible refine AllP.guard ?_); simp only [AllP, inI, fitV, maxK, inK, inbL, inb, List.append, List.cons_append, List.nil_append, true_and, and_true]; first | done | omega))) rfl rfl rfl ?_) | (refine Seq.ev true tt_ok (by rfl) (by (first | exact trivial | exact u8_in _ rfl | exact u32_in _ rfl | ((with_reducible refine AllP.guard ?_); simp only [AllP, inI, fitV, maxK, inK, inbL, inb, List.append, List.cons_append, List.nil_append, true_and, and_true]; first | done | omega))) rfl rfl rfl ?_) | (refine Seq.evn true tt_ok (by rfl) (by (first | exact trivial | exact u8_in _ rfl | exact u32_in _ rfl | ((with_reducible refine AllP.guard ?_); simp only [AllP, inI, fitV, maxK, inK, inbL, inb, List.append, List.cons_append, List.nil_append, true_and, and_true]; first | done | omega))) rfl ?_) | (refine Seq.pass (by rfl) rfl ?_)) | (((refine retQ_ok (by rfl) [] nil_sub ⟨?_, rfl⟩); try rfl)) | fail)
  simp only [Nat.zero_add]
  rfl
theorem rdigest_ok (s : List UInt8) (hs : 16 ≤ s.length) : Ok Tryd.prog 42 [] [] (.pair (.str s) .nul) (fun r h' => r = digA (s.take 16) ∧ h' = []) := by
  have hg : ∀ i, i < 16 → (s.take 16).getD i 0 = s.getD i 0 := fun i hi => by
    rw [List.getD_eq_getElem?_getD, List.getD_eq_getElem?_getD, List.getElem?_take_of_lt hi]
  generalize s.take 16 = Y at *
  refine Ok.of_vc tt_ok Tryd.func42 rfl rfl (by show 1 ≤ _; decide) 0 (fun i av h => by cases h) fun c0 => ?_
  repeat' (first | (refine SS_ ?_) | fail)
  refine VC.loop (fun k : Nat => ⟨[(4, .int .i64 (k : Nat)), (3, .ptr 1 []), (2, .ptr 0 []), (0, .str s)], [(0, .arr 16 1 (fun _ => .int .u8 0)), (1, .arr 16 1 (fun j => .int .u8 (if j < k then ((Y.getD j 0).toNat : Nat) else 0)))], [], 2⟩) (fun k => k ≤ 16) (fun k => 16 - k) 0 (by omega) (Sim.less [] (by rfl) R_ R_) fun q hq => ?_
  by_cases hkk : q < 16
  · have e := hg q hkk
    repeat' (first | (refine SS_ ?_) | (refine VC.litT (by rfl) LTR_ ?_) | fail)
    refine ⟨q + 1, by omega, by omega, ?_⟩
    (refine Sim.less [] (by rfl) ?_ ?_ <;> (repeat' (first | (exact EnvLe.nil) | (exact HeapLe.nil) | (with_reducible apply EnvLe.cons) | (with_reducible apply HeapLe.cons) | ((with_reducible refine RelA.int ?_; first | (refine Keep.mk ?_; first | with_reducible rfl | omega | decide) | skip)) | (exact rfl) | (exact ⟨rfl, rfl⟩) | ((with_reducible refine RelA.arr ?_; intro i hi)) | fail)) <;> (try with_reducible refine Keep.mk ?_))
    by_cases e2 : i = ((q : Nat) : Int).toNat
    · rw [bif_eq e2, e2, Int.toNat_natCast, if_pos (by omega), e]; exact rfl
    · rw [bif_ne e2]
      rw [Int.toNat_natCast] at e2
      have hc : (if i < q + 1 then (((Y.getD i 0).toNat : Nat) : Int) else 0) = if i < q then (((Y.getD i 0).toNat : Nat) : Int) else 0 := by
        by_cases h : i < q
        · rw [if_pos h, if_pos (by omega)]
        · rw [if_neg h, if_neg (by omega)]
      rw [hc]; exact rfl
  · obtain rfl : q = 16 := by omega
    refine VC.conv (s' := ⟨[(4, .int .i64 (16 : Nat)), (3, .ptr 1 []), (2, .ptr 0 []), (0, .str s)], [(0, .arr 16 1 (fun _ => .int .u8 0)), (1, digA Y)], [], 2⟩) (by
      first
        | (exact (Sim.less [] (by rfl) R_ R_); done)
        | ((refine Sim.less [] (by rfl) ?_ ?_ <;> (repeat' (first | (exact EnvLe.nil) | (exact HeapLe.nil) | (with_reducible apply EnvLe.cons) | (with_reducible apply HeapLe.cons) | ((with_reducible refine RelA.int ?_; first | (refine Keep.mk ?_; first | with_reducible rfl | omega | decide) | skip)) | (exact rfl) | (exact ⟨rfl, rfl⟩) | ((with_reducible refine RelA.rsl ?_; intro i hi)) | ((with_reducible refine RelA.arr ?_; intro i hi)) | (with_reducible refine RelA.pair ?_ ?_) | (with_reducible refine RelA.rptr ?_) | ((with_reducible refine RelA.rslw ?_; intro i hi)) | ((refine RelA.rsl ?_; intro i hi)) | ((refine RelA.rslw ?_; intro i hi)) | ((refine RelA.arr ?_; intro i hi)) | (refine RelA.pair ?_ ?_) | (refine RelA.tup ?_) | (((first | refine RelA.rslL (by first | rfl | ((try simp only [List.length_take, List.length_drop, List.length_append, List.length_cons, List.length_nil, List.length_map, List.length_range]); omega)) ?_ | refine RelA.rslT (by first | rfl | ((try simp only [List.length_take, List.length_drop, List.length_append, List.length_cons, List.length_nil, List.length_map, List.length_range]); omega)) ?_ | refine RelA.arrL (by first | rfl | ((try simp only [List.length_take, List.length_drop, List.length_append, List.length_cons, List.length_nil, List.length_map, List.length_range]); omega)) ?_); intro i hi; (try simp only [List.length_take, List.length_drop] at hi); (try simp (disch := omega) only [getD_take, getD_drop, Nat.zero_add, Int.toNat_natCast]))) | (exact RelA.bif_int) | (refine RelA.fn ?_ ?_) | (exact NoId.self (by first | ((repeat' (first | exact trivial | exact rfl | refine NoFr.bif ?_ ?_ | refine NoId.bif ?_ ?_ | refine AllFr.bif ?_ ?_ | (intro i hi) | (refine ⟨?_, ?_⟩) | (intro e; cases e; done))); done) | fail)))) <;> (try with_reducible refine Keep.mk ?_)); rw [if_pos hi]; exact rfl)) ?_
    repeat' (first | (refine SS_ ?_) | (refine VC.litF (by rfl) LFA_ ?_) | (((refine retQ_ok (by rfl) [] nil_sub ⟨?_, rfl⟩); try rfl)) | fail)
theorem rstart_ok (seed : List UInt8) (hs : seed.length ≤ 1000000) (i c : Int) (hi : I64 i) (hc : I64 c) : Ok Tryd.prog 33 gR [] (.pair (.str seed) (.pair (.int .i64 i) (.pair (.int .i64 c) .nul))) (fun r h' => r = digA (startD seed i c) ∧ h' = []) := by
  have c1 := rInts_ok [i, c] (by simp) (ints2_I hi hc)
  have h1 := intsB_len [i, c]
  have h4 : [i, c].length = 2 := rfl
  have c2 := refMac_ok seed (99 :: 104 :: 97 :: 105 :: 110 :: intsB [i, c]) (by omega) (by simp only [List.length_cons]; omega)
  have hm := macB_length seed (99 :: 104 :: 97 :: 105 :: 110 :: intsB [i, c])
  unfold startD
  generalize macB seed (99 :: 104 :: 97 :: 105 :: 110 :: intsB [i, c]) = M at *
  generalize hZ : intsB [i, c] = Z at *
  have c3 := rdigest_ok M (by omega)
  refine Ok.of_vc tt_ok Tryd.func33 rfl rfl (by show 3 ≤ _; decide) 0 (fun i av h => by cases h) fun c0 => ?_
  repeat' (first | (refine SS_ ?_) | (refine Seq.cat (by rfl) (by rfl) (by rfl) rfl (by simp; omega) ?_ ) | (refine Seq.callq true (c1) Tryd.func50 GG_ SG_ (by rfl) rfl rfl rfl (by rfl) rfl VW_ NI_ NI_ FR_ ?_) | (refine Seq.callq true (c2) Tryd.func51 GG_ SG_ (by rfl) rfl rfl rfl (by rfl) rfl VW_ NI_ NI_ FR_ ?_) | (refine Seq.callq true (c3) Tryd.func42 GG_ SG_ (by rfl) rfl rfl rfl (by rfl) rfl VW_ NI_ NI_ FR_ ?_) | (((refine retQ_ok (by rfl) [] nil_sub ⟨?_, rfl⟩); try rfl)) | fail)
theorem snode_ok (a b : List UInt8) (ha : a.length = 16) (hb : b.length = 16) : Ok Tryd.prog 40 gK [] (.pair (digA a) (.pair (digA b) .nul)) (fun r h' => r = digA (nodeD a b) ∧ h' = []) := by
  have c1 := ofD_ok 2 [a, b] (by decide) (by simp) (by have := parts2_len a b; omega)
  unfold nodeD
  generalize digD 2 [a, b] = Y at *
  refine Ok.of_vc tt_ok Tryd.func40 rfl rfl (by show 2 ≤ _; decide) 0 (fun i av h => by cases h) fun c0 => ?_
  repeat' (first | (refine SS_ ?_) | (refine VC.drawm (id := 1) [(0, 0), (1, 1), (2, 0), (3, 4), (4, 15), (5, 31)] [6] (by rfl) (by kernel_rfl) (by rfl) ?_) | (refine DSeq.str (a) tt_ok (by rfl) (fastE (by rfl)) (fastH (by rfl)) (by rfl) (by rfl) (by rfl) (by rfl) (by rfl) (by (first | exact trivial | exact u8_in _ rfl | exact u32_in _ rfl | ((with_reducible refine AllP.guard ?_); simp only [AllP, inI, fitV, maxK, inK, inbL, inb, List.append, List.cons_append, List.nil_append, true_and, and_true]; first | done | omega))) (by rfl) (.inl rfl) (by rfl) (by rfl) (ha) (fun i hi => by first | exact rfl | (simp only [Nat.zero_add]; done) | fail) ?_) | (refine DSeq.str (b) tt_ok (by rfl) (fastE (by rfl)) (fastH (by rfl)) (by rfl) (by rfl) (by rfl) (by rfl) (by rfl) (by (first | exact trivial | exact u8_in _ rfl | exact u32_in _ rfl | ((with_reducible refine AllP.guard ?_); simp only [AllP, inI, fitV, maxK, inK, inbL, inb, List.append, List.cons_append, List.nil_append, true_and, and_true]; first | done | omega))) (by rfl) (.inl rfl) (by rfl) (by rfl) (hb) (fun i hi => by first | exact rfl | (simp only [Nat.zero_add]; done) | fail) ?_) | (refine DD_ ?_) | (refine DSeq.callq true (c1) Tryd.func34 GG_ SG_ (by rfl) (fastE (by rfl)) (fastH (by rfl)) (by rfl) rfl rfl rfl (by rfl) (by rfl) VW_ NI_ NI_ FR_ ?_) | (((refine retQ_ok (by rfl) [] nil_sub ⟨?_, rfl⟩); try rfl)) | fail)
theorem rnode_ok (a b : List UInt8) (ha : a.length = 16) (hb : b.length = 16) : Ok Tryd.prog 43 gR [] (.pair (digA a) (.pair (digA b) .nul)) (fun r h' => r = digA (nodeD a b) ∧ h' = []) := by
  have c1 := refOfD_ok 2 [a, b] (by decide) (by simp) (by have := parts2_len a b; omega)
  have c2 := textD_ok a ha
  have c3 := textD_ok b hb
  unfold nodeD
  generalize digD 2 [a, b] = Y at *
  refine Ok.of_vc tt_ok Tryd.func43 rfl rfl (by show 2 ≤ _; decide) 0 (fun i av h => by cases h) fun c0 => ?_
  repeat' (first | (refine SS_ ?_) | (refine VC.drawm (id := 1) [(0, 0), (1, 1), (2, 0), (3, 7), (4, 15), (5, 31)] [6] (by rfl) (by kernel_rfl) (by rfl) ?_) | (refine DD_ ?_) | (refine DSeq.callq true (c2) Tryd.func31 GG_ SG_ (by rfl) (fastE (by rfl)) (fastH (by rfl)) (by rfl) rfl rfl rfl (by rfl) (by rfl) VW_ NI_ NI_ FR_ ?_) | (refine DSeq.callq true (c3) Tryd.func31 GG_ SG_ (by rfl) (fastE (by rfl)) (fastH (by rfl)) (by rfl) rfl rfl rfl (by rfl) (by rfl) VW_ NI_ NI_ FR_ ?_) | (refine DSeq.callq true (c1) Tryd.func35 GG_ SG_ (by rfl) (fastE (by rfl)) (fastH (by rfl)) (by rfl) rfl rfl rfl (by rfl) (by rfl) VW_ NI_ NI_ FR_ ?_) | (((refine retQ_ok (by rfl) [] nil_sub ⟨?_, rfl⟩); try rfl)) | fail)
/-- What is signed. -/
def msgD (p : List UInt8) (i : Int) (m : List UInt8) : List UInt8 := digD 4 [p, Wire.int i, m]
theorem msgD_length (p : List UInt8) (i : Int) (m : List UInt8) : (msgD p i m).length = 16 := digD_length _ _
theorem sDigest_ok (p : List UInt8) (hp : p.length = 16) (i : Int) (hi : I64 i) (m : List UInt8) (hm : m.length ≤ 10000000000) : Ok Tryd.prog 16 gK [] (.pair (digA p) (.pair (.int .i64 i) (.pair (.str m) .nul))) (fun r h' => r = digA (msgD p i m) ∧ h' = []) := by
  have c1 := ofD_ok 4 [p, Wire.int i, m] (by decide) (by simp) (by have := parts3_len p (Wire.int i) m; have := Wire.int_length i; omega)
  have c2 := wireInt_ok i hi
  unfold msgD
  generalize digD 4 [p, Wire.int i, m] = Y at *
  generalize Wire.int i = Z at *
  refine Ok.of_vc tt_ok Tryd.func16 rfl rfl (by show 3 ≤ _; decide) 0 (fun i av h => by cases h) fun c0 => ?_
  repeat' (first | (refine SS_ ?_) | (refine VC.drawm (id := 1) [(0, 0), (1, 1), (2, 0), (3, 4), (4, 12), (5, 0), (6, 63), (7, 127)] [8] (by rfl) (by kernel_rfl) (by rfl) ?_) | (refine DSeq.str (p) tt_ok (by rfl) (fastE (by rfl)) (fastH (by rfl)) (by rfl) (by rfl) (by rfl) (by rfl) (by rfl) (by (first | exact trivial | exact u8_in _ rfl | exact u32_in _ rfl | ((with_reducible refine AllP.guard ?_); simp only [AllP, inI, fitV, maxK, inK, inbL, inb, List.append, List.cons_append, List.nil_append, true_and, and_true]; first | done | omega))) (by rfl) (.inl rfl) (by rfl) (by rfl) (hp) (fun i hi => by first | exact rfl | (simp only [Nat.zero_add]; done) | fail) ?_) | (refine DSeq.str (Z) tt_ok (by rfl) (fastE (by rfl)) (fastH (by rfl)) (by rfl) (by rfl) (by rfl) (by rfl) (by rfl) (by (first | exact trivial | exact u8_in _ rfl | exact u32_in _ rfl | ((with_reducible refine AllP.guard ?_); simp only [AllP, inI, fitV, maxK, inK, inbL, inb, List.append, List.cons_append, List.nil_append, true_and, and_true]; first | done | omega))) (by rfl) (.inl rfl) (by rfl) (by rfl) (rfl) (fun i hi => by first | exact rfl | (simp only [Nat.zero_add]; done) | fail) ?_) | (refine DD_ ?_) | (refine DSeq.callq false (c2) Tryd.func26 GG_ SG_ (by rfl) (fastE (by rfl)) (fastH (by rfl)) (by rfl) rfl rfl rfl (by rfl) (by rfl) VW_ NI_ NI_ FR_ ?_) | (refine DSeq.callq true (c1) Tryd.func34 GG_ SG_ (by rfl) (fastE (by rfl)) (fastH (by rfl)) (by rfl) rfl rfl rfl (by rfl) (by rfl) VW_ NI_ NI_ FR_ ?_) | (((refine retQ_ok (by rfl) [] nil_sub ⟨?_, rfl⟩); try rfl)) | fail)
theorem rDigest_ok (p : List UInt8) (hp : p.length = 16) (i : Int) (hi : I64 i) (m : List UInt8) (hm : m.length ≤ 10000000000) : Ok Tryd.prog 17 gR [] (.pair (digA p) (.pair (.int .i64 i) (.pair (.str m) .nul))) (fun r h' => r = digA (msgD p i m) ∧ h' = []) := by
  have c1 := refOfD_ok 4 [p, Wire.int i, m] (by decide) (by simp) (by have := parts3_len p (Wire.int i) m; have := Wire.int_length i; omega)
  have c2 := refInt_ok i hi
  have c3 := textD_ok p hp
  unfold msgD
  generalize digD 4 [p, Wire.int i, m] = Y at *
  generalize Wire.int i = Z at *
  refine Ok.of_vc tt_ok Tryd.func17 rfl rfl (by show 3 ≤ _; decide) 0 (fun i av h => by cases h) fun c0 => ?_
  repeat' (first | (refine SS_ ?_) | (refine Seq.str (Z) tt_ok (by rfl) (by rfl) (by rfl) (by rfl) (by rfl) (by (first | exact trivial | exact u8_in _ rfl | exact u32_in _ rfl | ((with_reducible refine AllP.guard ?_); simp only [AllP, inI, fitV, maxK, inK, inbL, inb, List.append, List.cons_append, List.nil_append, true_and, and_true]; first | done | omega))) (by rfl) (.inl rfl) (by rfl) rfl (rfl) (fun i hi => by first | exact rfl | simp only [Nat.zero_add]) ?_) | (refine Seq.callq true (c3) Tryd.func31 GG_ SG_ (by rfl) rfl rfl rfl (by rfl) rfl VW_ NI_ NI_ FR_ ?_) | (refine Seq.callq false (c2) Tryd.func30 GG_ SG_ (by rfl) rfl rfl rfl (by rfl) rfl VW_ NI_ NI_ FR_ ?_) | (refine Seq.callq true (c1) Tryd.func35 GG_ SG_ (by rfl) rfl rfl rfl (by rfl) rfl VW_ NI_ NI_ FR_ ?_) | (((refine retQ_ok (by rfl) [] nil_sub ⟨?_, rfl⟩); try rfl)) | fail)
theorem svalid_ok (h : Int) : Ok Tryd.prog 21 [] [] (.pair (.int .i64 h) .nul) (fun r h' => r = .bool (decide (0 ≤ h ∧ h ≤ 6)) ∧ h' = []) := by
  by_cases hh : 0 ≤ h ∧ h ≤ 6
  · rw [decide_eq_true hh]
    obtain ⟨h1, h2⟩ := hh
    refine Ok.of_vcC tt_ok Tryd.func21 rfl rfl (by show 1 ≤ _; decide) 0 (hlt_ok (by rfl)) fun c0 => ?_
    repeat' (first | (refine SS_ ?_) | (refine Seq.lit (by rfl) (by rfl) LT2_ ?_) | fail)
    rw [decide_eq_true h2]
    (refine retC_mk ([(2, .bool true)]) ([]) 0 (Sim.less [] (by rfl) R_ R_) (retQ_ok (by rfl) ([]) (fun i av h => h) ⟨?_, ?_⟩)) <;> rfl
  · rw [decide_eq_false hh]
    by_cases h1 : 0 ≤ h
    · have h2 : ¬ h ≤ 6 := fun e => hh ⟨h1, e⟩
      refine Ok.of_vcC tt_ok Tryd.func21 rfl rfl (by show 1 ≤ _; decide) 0 (hlt_ok (by rfl)) fun c0 => ?_
      repeat' (first | (refine SS_ ?_) | (refine Seq.lit (by rfl) (by rfl) LT2_ ?_) | fail)
      rw [decide_eq_false h2]
      (refine retC_mk ([(2, .bool false)]) ([]) 0 (Sim.less [] (by rfl) R_ R_) (retQ_ok (by rfl) ([]) (fun i av h => h) ⟨?_, ?_⟩)) <;> rfl
    · refine Ok.of_vcC tt_ok Tryd.func21 rfl rfl (by show 1 ≤ _; decide) 0 (hlt_ok (by rfl)) fun c0 => ?_
      repeat' (first | (refine SS_ ?_) | (refine Seq.lit (by rfl) (by rfl) LT2_ ?_) | fail)
      (refine retC_mk ([(2, .bool false)]) ([]) 0 (Sim.less [] (by rfl) R_ R_) (retQ_ok (by rfl) ([]) (fun i av h => h) ⟨?_, ?_⟩)) <;> rfl
theorem rfits_ok (seed : List UInt8) (h : Int) (hs : seed.length ≤ 1000000000) : Ok Tryd.prog 23 [] [] (.pair (.str seed) (.pair (.int .i64 h) .nul)) (fun r h' => r = .bool (decide (seed.length = 32 ∧ 0 ≤ h ∧ h ≤ 6)) ∧ h' = []) := by
  by_cases hh : seed.length = 32 ∧ 0 ≤ h ∧ h ≤ 6
  · rw [decide_eq_true hh]
    obtain ⟨h0, h1, h2⟩ := hh
    refine Ok.of_vcC tt_ok Tryd.func23 rfl rfl (by show 2 ≤ _; decide) 0 (hlt_ok (by rfl)) fun c0 => ?_
    repeat' (first | (refine SS_ ?_) | (refine Seq.lit (by rfl) (by rfl) LT2_ ?_) | fail)
    rw [decide_eq_true h2]
    (refine retC_mk ([(4, .bool true)]) ([]) 0 (Sim.less [] (by rfl) R_ R_) (retQ_ok (by rfl) ([]) (fun i av h => h) ⟨?_, ?_⟩)) <;> rfl
  · rw [decide_eq_false hh]
    by_cases h0 : seed.length = 32
    · by_cases h1 : 0 ≤ h
      · have h2 : ¬ h ≤ 6 := fun e => hh ⟨h0, h1, e⟩
        refine Ok.of_vcC tt_ok Tryd.func23 rfl rfl (by show 2 ≤ _; decide) 0 (hlt_ok (by rfl)) fun c0 => ?_
        repeat' (first | (refine SS_ ?_) | (refine Seq.lit (by rfl) (by rfl) LT2_ ?_) | fail)
        rw [decide_eq_false h2]
        (refine retC_mk ([(4, .bool false)]) ([]) 0 (Sim.less [] (by rfl) R_ R_) (retQ_ok (by rfl) ([]) (fun i av h => h) ⟨?_, ?_⟩)) <;> rfl
      · refine Ok.of_vcC tt_ok Tryd.func23 rfl rfl (by show 2 ≤ _; decide) 0 (hlt_ok (by rfl)) fun c0 => ?_
        repeat' (first | (refine SS_ ?_) | (refine Seq.lit (by rfl) (by rfl) LT2_ ?_) | fail)
        (refine retC_mk ([(4, .bool false)]) ([]) 0 (Sim.less [] (by rfl) R_ R_) (retQ_ok (by rfl) ([]) (fun i av h => h) ⟨?_, ?_⟩)) <;> rfl
    · refine Ok.of_vcC tt_ok Tryd.func23 rfl rfl (by show 2 ≤ _; decide) 0 (hlt_ok (by rfl)) fun c0 => ?_
      repeat' (first | (refine SS_ ?_) | (refine Seq.lit (by rfl) (by rfl) LT2_ ?_) | fail)
      (refine retC_mk ([(4, .bool false)]) ([]) 0 (Sim.less [] (by rfl) R_ R_) (retQ_ok (by rfl) ([]) (fun i av h => h) ⟨?_, ?_⟩)) <;> rfl
end Go.Proofs.YthejnchhddggmaaDoor
