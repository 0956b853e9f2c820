
/- math/bits.Len, tree.half. -/
import Derived.Test.YtbphmbmdkojbnaaDoorTy
import Derived.Test.YtbphmbmdkojbnaaDoorFe
import Derived.Test.YtbphmbmdkojbnaaDoorTa
import Derived.Test.YtbphmbmdkojbnaaDoorProg
set_option linter.unusedSimpArgs false
set_option linter.unusedVariables false
namespace Go.Proofs.YtbphmbmdkojbnaaDoor
open Go.V Go.RowKit
/-- How many binary digits. -/
def blen (m : Nat) : Nat := if m = 0 then 0 else Nat.log2 m + 1
theorem blen_uniq {m L : Nat} (h1 : m < 2 ^ L) (h2 : L = 0 ∨ 2 ^ (L - 1) ≤ m) : blen m = L := by
  unfold blen
  rcases Nat.eq_zero_or_pos m with h0 | h0
  · subst h0
    rw [if_pos rfl]
    rcases h2 with h2 | h2
    · exact h2.symm
    · have := Nat.pow_pos (n := L - 1) (show 0 < 2 by decide); omega
  · rw [if_neg (by omega)]
    rcases h2 with h2 | h2
    · subst h2; simp at h1; omega
    · have hL : 0 < L := by
        rcases Nat.eq_zero_or_pos L with h | h
        · subst h; simp at h1; omega
        · exact h
      have a := (Nat.le_log2 (by omega)).2 h2
      have b := (Nat.log2_lt (by omega)).2 h1
      omega
theorem blen_lt (m : Nat) : m < 2 ^ blen m := by
  unfold blen
  split
  · rename_i h; subst h; simp
  · rename_i h; exact Nat.lt_log2_self
theorem blen_le {m : Nat} (h : 0 < m) : 2 ^ (blen m - 1) ≤ m := by
  unfold blen
  rw [if_neg (by omega), Nat.add_sub_cancel]
  exact Nat.log2_self_le (by omega)
theorem blen_shift {m k : Nat} (h : 2 ^ k ≤ m) : blen m = blen (m / 2 ^ k) + k := by
  have h0 : 0 < m / 2 ^ k := Nat.div_pos h (Nat.pow_pos (by decide))
  have h1 := blen_lt (m / 2 ^ k)
  have h2 := blen_le h0
  have hp := Nat.pow_pos (n := k) (show 0 < 2 by decide)
  refine blen_uniq ?_ (.inr ?_)
  · rw [Nat.pow_add]
    exact (Nat.div_lt_iff_lt_mul hp).1 h1
  · have hb : 0 < blen (m / 2 ^ k) := by unfold blen; rw [if_neg (by omega)]; omega
    rw [show blen (m / 2 ^ k) + k - 1 = blen (m / 2 ^ k) - 1 + k by omega, Nat.pow_add]
    exact (Nat.le_div_iff_mul_le hp).1 h2
theorem half_log {n : Nat} (h : 2 ≤ n) : Tree.half n = 2 ^ (blen (n - 1) - 1) :=
  Tree.half_uniq h rfl (by have := blen_le (m := n - 1) (by omega); omega) (by
    have h1 := blen_lt (n - 1)
    have hb : 0 < blen (n - 1) := by unfold blen; rw [if_neg (by omega)]; omega
    have h2 : 2 ^ blen (n - 1) = 2 * 2 ^ (blen (n - 1) - 1) := by rw [← Nat.pow_succ']; congr 1; omega
    omega)
def tab8 : List UInt8 := [0, 1, 2, 2] ++ List.replicate 4 3 ++ List.replicate 8 4 ++ List.replicate 16 5 ++ List.replicate 32 6 ++ List.replicate 64 7 ++ List.replicate 128 8
theorem tab8_ok : ∀ x, x < 256 → (tab8.getD x 0).toNat = blen x := by
  have h : (List.range 256).all (fun x => (tab8.getD x 0).toNat == blen x) = true := by decide +kernel
  intro x hx
  have := List.all_eq_true.1 h x (List.mem_range.2 hx)
  exact eq_of_beq this
theorem fdiv_pow2 (N q : Nat) : ((N : Nat) : Int).fdiv (2 ^ q) = ((N / 2 ^ q : Nat) : Int) := by
  rw [Int.fdiv_eq_ediv_of_nonneg _ (by exact_mod_cast Nat.zero_le _)]
  push_cast
  rfl
set_option maxRecDepth 10000 in
theorem len64_ok (m : Nat) (hm : m < 18446744073709551616) : Ok Tryd.prog 72 [] [] (.pair (.int .u64 (m : Nat)) .nul) (fun r h' => r = .int .i64 (blen m : Nat) ∧ h' = []) := by
  refine Ok.of_vc tt_ok Tryd.func72 rfl rfl (by show 1 ≤ _; decide) 0 (fun i av h => by cases h) fun c0 => ?_
  refine S_ ?_
  refine VC.joinT (fun p : Nat × Nat => ⟨[(2, .int .i64 (p.2 : Nat)), (0, .int .u64 (p.1 : Nat))], [], [], 0⟩) (fun p => p.1 < 4294967296 ∧ p.2 ≤ 32 ∧ blen m = blen p.1 + p.2) ?_ fun p hp => ?_
  · refine VC.cond (by rfl) (fun hb => ?_) (fun hb => ?_) <;> (try simp only [decide_eq_true_eq, decide_eq_false_iff_not, Bool.not_eq_true', Bool.not_eq_false'] at hb) <;> (try (exfalso; omega))
    · refine S_ ?_
      refine ⟨(m / 2 ^ 32, 32), ⟨by show m / 2 ^ 32 < 4294967296; omega, by show 32 ≤ 32; omega, blen_shift (by omega)⟩, ?_⟩
      refine Sim.less [] (by rfl) ?_ ?_ <;> (repeat' (first | exact EnvLe.nil | exact HeapLe.nil | with_reducible apply EnvLe.cons | with_reducible apply HeapLe.cons | (with_reducible refine RelA.int ?_; first | (refine Keep.mk ?_; first | with_reducible rfl | omega | decide) | skip) | exact rfl | exact ⟨rfl, rfl⟩ | (with_reducible refine RelA.rsl ?_; intro i hi) | (with_reducible refine RelA.arr ?_; intro i hi) | with_reducible refine RelA.pair ?_ ?_ | with_reducible refine RelA.rptr ?_ | (with_reducible refine RelA.rslw ?_; intro i hi) | (refine RelA.rsl ?_; intro i hi) | (refine RelA.rslw ?_; intro i hi) | (refine RelA.arr ?_; intro i hi) | refine RelA.pair ?_ ?_ | refine RelA.tup ?_ | ((first | refine RelA.rslL (by first | rfl | ((try simp only [List.length_take, List.length_drop, List.length_append, List.length_cons, List.length_nil, List.length_map, List.length_range]); omega)) ?_ | refine RelA.rslT (by first | rfl | ((try simp only [List.length_take, List.length_drop, List.length_append, List.length_cons, List.length_nil, List.length_map, List.length_range]); omega)) ?_ | refine RelA.arrL (by first | rfl | ((try simp only [List.length_take, List.length_drop, List.length_append, List.length_cons, List.length_nil, List.length_map, List.length_range]); omega)) ?_); intro i hi; (try simp only [List.length_take, List.length_drop] at hi); (try simp (disch := omega) only [getD_take, getD_drop, Nat.zero_add, Int.toNat_natCast])) | exact RelA.bif_int | refine RelA.fn ?_ ?_)) <;> (try with_reducible refine Keep.mk ?_)
      exact fdiv_pow2 m 32
    · refine S_ ?_
      refine ⟨(m, 0), ⟨by show m < 4294967296; omega, by show 0 ≤ 32; omega, rfl⟩, ?_⟩
      refine Sim.less [] (by rfl) ?_ ?_ <;> (repeat' (first | exact EnvLe.nil | exact HeapLe.nil | with_reducible apply EnvLe.cons | with_reducible apply HeapLe.cons | (with_reducible refine RelA.int ?_; first | (refine Keep.mk ?_; first | with_reducible rfl | omega | decide) | skip) | exact rfl | exact ⟨rfl, rfl⟩ | (with_reducible refine RelA.rsl ?_; intro i hi) | (with_reducible refine RelA.arr ?_; intro i hi) | with_reducible refine RelA.pair ?_ ?_ | with_reducible refine RelA.rptr ?_ | (with_reducible refine RelA.rslw ?_; intro i hi) | (refine RelA.rsl ?_; intro i hi) | (refine RelA.rslw ?_; intro i hi) | (refine RelA.arr ?_; intro i hi) | refine RelA.pair ?_ ?_ | refine RelA.tup ?_ | ((first | refine RelA.rslL (by first | rfl | ((try simp only [List.length_take, List.length_drop, List.length_append, List.length_cons, List.length_nil, List.length_map, List.length_range]); omega)) ?_ | refine RelA.rslT (by first | rfl | ((try simp only [List.length_take, List.length_drop, List.length_append, List.length_cons, List.length_nil, List.length_map, List.length_range]); omega)) ?_ | refine RelA.arrL (by first | rfl | ((try simp only [List.length_take, List.length_drop, List.length_append, List.length_cons, List.length_nil, List.length_map, List.length_range]); omega)) ?_); intro i hi; (try simp only [List.length_take, List.length_drop] at hi); (try simp (disch := omega) only [getD_take, getD_drop, Nat.zero_add, Int.toNat_natCast])) | exact RelA.bif_int | refine RelA.fn ?_ ?_)) <;> (try with_reducible refine Keep.mk ?_)
  obtain ⟨a, b⟩ := p
  obtain ⟨hxa, hyb, hea⟩ := hp
  simp only at hxa hyb hea ⊢
  refine S_ ?_
  refine VC.joinT (fun p : Nat × Nat => ⟨[(2, .int .i64 (p.2 : Nat)), (0, .int .u64 (p.1 : Nat))], [], [], 0⟩) (fun p => p.1 < 65536 ∧ p.2 ≤ 48 ∧ blen m = blen p.1 + p.2) ?_ fun p hp => ?_
  · refine VC.cond (by rfl) (fun hb => ?_) (fun hb => ?_) <;> (try simp only [decide_eq_true_eq, decide_eq_false_iff_not, Bool.not_eq_true', Bool.not_eq_false'] at hb) <;> (try (exfalso; omega))
    · refine S_ ?_
      refine ⟨(a / 2 ^ 16, b + 16), ⟨by show a / 2 ^ 16 < 65536; omega, by show b + 16 ≤ 48; omega, by show blen m = blen (a / 2 ^ 16) + (b + 16); rw [hea, blen_shift (m := a) (k := 16) (by omega)]; omega⟩, ?_⟩
      refine Sim.less [] (by rfl) ?_ ?_ <;> (repeat' (first | exact EnvLe.nil | exact HeapLe.nil | with_reducible apply EnvLe.cons | with_reducible apply HeapLe.cons | (with_reducible refine RelA.int ?_; first | (refine Keep.mk ?_; first | with_reducible rfl | omega | decide) | skip) | exact rfl | exact ⟨rfl, rfl⟩ | (with_reducible refine RelA.rsl ?_; intro i hi) | (with_reducible refine RelA.arr ?_; intro i hi) | with_reducible refine RelA.pair ?_ ?_ | with_reducible refine RelA.rptr ?_ | (with_reducible refine RelA.rslw ?_; intro i hi) | (refine RelA.rsl ?_; intro i hi) | (refine RelA.rslw ?_; intro i hi) | (refine RelA.arr ?_; intro i hi) | refine RelA.pair ?_ ?_ | refine RelA.tup ?_ | ((first | refine RelA.rslL (by first | rfl | ((try simp only [List.length_take, List.length_drop, List.length_append, List.length_cons, List.length_nil, List.length_map, List.length_range]); omega)) ?_ | refine RelA.rslT (by first | rfl | ((try simp only [List.length_take, List.length_drop, List.length_append, List.length_cons, List.length_nil, List.length_map, List.length_range]); omega)) ?_ | refine RelA.arrL (by first | rfl | ((try simp only [List.length_take, List.length_drop, List.length_append, List.length_cons, List.length_nil, List.length_map, List.length_range]); omega)) ?_); intro i hi; (try simp only [List.length_take, List.length_drop] at hi); (try simp (disch := omega) only [getD_take, getD_drop, Nat.zero_add, Int.toNat_natCast])) | exact RelA.bif_int | refine RelA.fn ?_ ?_)) <;> (try with_reducible refine Keep.mk ?_)
      exact fdiv_pow2 a 16
    · refine S_ ?_
      refine ⟨(a, b), ⟨by show a < 65536; omega, by show b ≤ 48; omega, hea⟩, ?_⟩
      refine Sim.less [] (by rfl) ?_ ?_ <;> (repeat' (first | exact EnvLe.nil | exact HeapLe.nil | with_reducible apply EnvLe.cons | with_reducible apply HeapLe.cons | (with_reducible refine RelA.int ?_; first | (refine Keep.mk ?_; first | with_reducible rfl | omega | decide) | skip) | exact rfl | exact ⟨rfl, rfl⟩ | (with_reducible refine RelA.rsl ?_; intro i hi) | (with_reducible refine RelA.arr ?_; intro i hi) | with_reducible refine RelA.pair ?_ ?_ | with_reducible refine RelA.rptr ?_ | (with_reducible refine RelA.rslw ?_; intro i hi) | (refine RelA.rsl ?_; intro i hi) | (refine RelA.rslw ?_; intro i hi) | (refine RelA.arr ?_; intro i hi) | refine RelA.pair ?_ ?_ | refine RelA.tup ?_ | ((first | refine RelA.rslL (by first | rfl | ((try simp only [List.length_take, List.length_drop, List.length_append, List.length_cons, List.length_nil, List.length_map, List.length_range]); omega)) ?_ | refine RelA.rslT (by first | rfl | ((try simp only [List.length_take, List.length_drop, List.length_append, List.length_cons, List.length_nil, List.length_map, List.length_range]); omega)) ?_ | refine RelA.arrL (by first | rfl | ((try simp only [List.length_take, List.length_drop, List.length_append, List.length_cons, List.length_nil, List.length_map, List.length_range]); omega)) ?_); intro i hi; (try simp only [List.length_take, List.length_drop] at hi); (try simp (disch := omega) only [getD_take, getD_drop, Nat.zero_add, Int.toNat_natCast])) | exact RelA.bif_int | refine RelA.fn ?_ ?_)) <;> (try with_reducible refine Keep.mk ?_)
  obtain ⟨c, d⟩ := p
  obtain ⟨hxc, hyd, hec⟩ := hp
  simp only at hxc hyd hec ⊢
  refine S_ ?_
  refine VC.joinT (fun p : Nat × Nat => ⟨[(2, .int .i64 (p.2 : Nat)), (0, .int .u64 (p.1 : Nat))], [], [], 0⟩) (fun p => p.1 < 256 ∧ p.2 ≤ 56 ∧ blen m = blen p.1 + p.2) ?_ fun p hp => ?_
  · refine VC.cond (by rfl) (fun hb => ?_) (fun hb => ?_) <;> (try simp only [decide_eq_true_eq, decide_eq_false_iff_not, Bool.not_eq_true', Bool.not_eq_false'] at hb) <;> (try (exfalso; omega))
    · refine S_ ?_
      refine ⟨(c / 2 ^ 8, d + 8), ⟨by show c / 2 ^ 8 < 256; omega, by show d + 8 ≤ 56; omega, by show blen m = blen (c / 2 ^ 8) + (d + 8); rw [hec, blen_shift (m := c) (k := 8) (by omega)]; omega⟩, ?_⟩
      refine Sim.less [] (by rfl) ?_ ?_ <;> (repeat' (first | exact EnvLe.nil | exact HeapLe.nil | with_reducible apply EnvLe.cons | with_reducible apply HeapLe.cons | (with_reducible refine RelA.int ?_; first | (refine Keep.mk ?_; first | with_reducible rfl | omega | decide) | skip) | exact rfl | exact ⟨rfl, rfl⟩ | (with_reducible refine RelA.rsl ?_; intro i hi) | (with_reducible refine RelA.arr ?_; intro i hi) | with_reducible refine RelA.pair ?_ ?_ | with_reducible refine RelA.rptr ?_ | (with_reducible refine RelA.rslw ?_; intro i hi) | (refine RelA.rsl ?_; intro i hi) | (refine RelA.rslw ?_; intro i hi) | (refine RelA.arr ?_; intro i hi) | refine RelA.pair ?_ ?_ | refine RelA.tup ?_ | ((first | refine RelA.rslL (by first | rfl | ((try simp only [List.length_take, List.length_drop, List.length_append, List.length_cons, List.length_nil, List.length_map, List.length_range]); omega)) ?_ | refine RelA.rslT (by first | rfl | ((try simp only [List.length_take, List.length_drop, List.length_append, List.length_cons, List.length_nil, List.length_map, List.length_range]); omega)) ?_ | refine RelA.arrL (by first | rfl | ((try simp only [List.length_take, List.length_drop, List.length_append, List.length_cons, List.length_nil, List.length_map, List.length_range]); omega)) ?_); intro i hi; (try simp only [List.length_take, List.length_drop] at hi); (try simp (disch := omega) only [getD_take, getD_drop, Nat.zero_add, Int.toNat_natCast])) | exact RelA.bif_int | refine RelA.fn ?_ ?_)) <;> (try with_reducible refine Keep.mk ?_)
      exact fdiv_pow2 c 8
    · refine S_ ?_
      refine ⟨(c, d), ⟨by show c < 256; omega, by show d ≤ 56; omega, hec⟩, ?_⟩
      refine Sim.less [] (by rfl) ?_ ?_ <;> (repeat' (first | exact EnvLe.nil | exact HeapLe.nil | with_reducible apply EnvLe.cons | with_reducible apply HeapLe.cons | (with_reducible refine RelA.int ?_; first | (refine Keep.mk ?_; first | with_reducible rfl | omega | decide) | skip) | exact rfl | exact ⟨rfl, rfl⟩ | (with_reducible refine RelA.rsl ?_; intro i hi) | (with_reducible refine RelA.arr ?_; intro i hi) | with_reducible refine RelA.pair ?_ ?_ | with_reducible refine RelA.rptr ?_ | (with_reducible refine RelA.rslw ?_; intro i hi) | (refine RelA.rsl ?_; intro i hi) | (refine RelA.rslw ?_; intro i hi) | (refine RelA.arr ?_; intro i hi) | refine RelA.pair ?_ ?_ | refine RelA.tup ?_ | ((first | refine RelA.rslL (by first | rfl | ((try simp only [List.length_take, List.length_drop, List.length_append, List.length_cons, List.length_nil, List.length_map, List.length_range]); omega)) ?_ | refine RelA.rslT (by first | rfl | ((try simp only [List.length_take, List.length_drop, List.length_append, List.length_cons, List.length_nil, List.length_map, List.length_range]); omega)) ?_ | refine RelA.arrL (by first | rfl | ((try simp only [List.length_take, List.length_drop, List.length_append, List.length_cons, List.length_nil, List.length_map, List.length_range]); omega)) ?_); intro i hi; (try simp only [List.length_take, List.length_drop] at hi); (try simp (disch := omega) only [getD_take, getD_drop, Nat.zero_add, Int.toNat_natCast])) | exact RelA.bif_int | refine RelA.fn ?_ ?_)) <;> (try with_reducible refine Keep.mk ?_)
  obtain ⟨u, v⟩ := p
  obtain ⟨hxu, hyv, heu⟩ := hp
  simp only at hxu hyv heu ⊢
  refine S_ ?_
  have hw : IntKind.u8.wrap (u : Int) = (u : Int) := by simp [IntKind.wrap, IntKind.signed, IntKind.bits]; omega
  refine Seq.same 21 (u' := .int .u8 (u : Nat)) (by rfl) (congrArg (AV.int .u8) hw) ?_
  have hlen : (0 : Int) ≤ (u : Int) ∧ (u : Int) < ((tab8.length : Nat) : Int) ∧ True := ⟨by omega, by have : tab8.length = 256 := rfl; omega, trivial⟩
  refine Seq.ev0 true tt_ok (by rfl) (by
    refine ⟨hlen.1, ?_⟩
    refine Int.lt_of_lt_of_le (show (u : Int) < ((256 : Nat) : Int) by omega) (Int.ofNat_le.2 (Nat.le_of_eq ?_))
    kernel_rfl) rfl rfl rfl ?_
  have hv : (((tab8.getD u 0).toNat : Nat) : Int) = ((blen u : Nat) : Int) := by rw [tab8_ok u hxu]
  refine Seq.same 22 (u' := .int .u8 (blen u : Nat)) (by rfl) (congrArg (AV.int .u8) hv) ?_
  have hbu : blen u ≤ 8 := by
    rw [← tab8_ok u hxu]
    have h : (List.range 256).all (fun x => Nat.ble (tab8.getD x 0).toNat 8) = true := by decide +kernel
    exact Nat.le_of_ble_eq_true (List.all_eq_true.1 h u (List.mem_range.2 hxu))
  refine S_ ?_
  refine retQ_ok (by rfl) [] nil_sub ⟨congrArg (AV.int .i64) ?_, rfl⟩
  rw [heu]
  omega
theorem len_ok (m : Nat) (hm : m < 18446744073709551616) : Ok Tryd.prog 64 [] [] (.pair (.int .u64 (m : Nat)) .nul) (fun r h' => r = .int .i64 (blen m : Nat) ∧ h' = []) := by
  refine Ok.of_vc tt_ok Tryd.func64 rfl rfl (by show 1 ≤ _; decide) 0 (fun i av h => by cases h) fun c0 => ?_
  refine S_ ?_
  refine VC.cond (by rfl) (fun hb => ?_) (fun hb => ?_) <;> (try simp only [decide_eq_true_eq, decide_eq_false_iff_not, Bool.not_eq_true', Bool.not_eq_false'] at hb) <;> (try (exfalso; omega))
  · cases hb
  refine S_ ?_
  refine Seq.callp false (len64_ok m hm) Tryd.func72 GOk.nil subG.refl (by rfl) (by rfl) rfl rfl rfl rfl rfl (by rfl) rfl VW_ NI_ NI_ FR_ ?_
  refine S_ ?_
  exact retQ_ok (by rfl) [] nil_sub ⟨rfl, rfl⟩
theorem half_ok (n : Nat) (h2 : 2 ≤ n) (hn : n ≤ 1099511627776) : Ok Tryd.prog 58 [] [] (.pair (.int .i64 (n : Nat)) .nul) (fun r h' => r = .int .i64 (Tree.half n : Nat) ∧ h' = []) := by
  refine Ok.of_vc tt_ok Tryd.func58 rfl rfl (by show 1 ≤ _; decide) 0 (fun i av h => by cases h) fun c0 => ?_
  have hw : (n : Int) - 1 = ((n - 1 : Nat) : Int) := by omega
  refine S_ ?_
  refine Seq.same 5 (u' := .int .u64 ((n - 1 : Nat) : Int)) (by rfl) (congrArg (AV.int .u64) hw) ?_
  refine Seq.callp false (len_ok (n - 1) (by omega)) Tryd.func64 GOk.nil subG.refl (by rfl) (by rfl) rfl rfl rfl rfl rfl (by rfl) rfl VW_ NI_ NI_ FR_ ?_
  have hb0 : 0 < blen (n - 1) := by unfold blen; rw [if_neg (by omega)]; omega
  have hb1 : blen (n - 1) ≤ 41 := by
    refine Nat.le_of_lt_succ (Nat.lt_of_not_le fun hc => ?_)
    have h1 := blen_le (m := n - 1) (by omega)
    have h3 := Nat.pow_le_pow_right (show 0 < 2 by decide) (show 41 ≤ blen (n - 1) - 1 by omega)
    omega
  refine S_ ?_
  refine retQ_ok (by rfl) [] nil_sub ⟨congrArg (AV.int .i64) ?_, rfl⟩
  rw [half_log h2]
  obtain ⟨q, hq⟩ : ∃ q, blen (n - 1) = q + 1 := ⟨blen (n - 1) - 1, by omega⟩
  rw [hq]
  have hm : min (((q + 1 : Nat) : Int) - 1).toNat IntKind.i64.bits = q := by simp [IntKind.bits]; omega
  have hp : 2 ^ q < 2 ^ 41 := Nat.pow_lt_pow_right (by decide) (by omega)
  have hp2 : ((2 : Int) ^ q) = ((2 ^ q : Nat) : Int) := by push_cast; rfl
  rw [hm, Nat.add_sub_cancel, Int.one_mul, hp2]
  generalize 2 ^ q = z at *
  simp [IntKind.wrap, IntKind.signed, IntKind.bits]
  omega
end Go.Proofs.YtbphmbmdkojbnaaDoor
