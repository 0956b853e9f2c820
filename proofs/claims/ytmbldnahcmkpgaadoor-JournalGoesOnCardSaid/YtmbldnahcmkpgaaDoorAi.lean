/- dioramaref02.Sum. Journals: the reference's Checked, Pack, Unpack, Text. Journals: the reference's Unpack; Unpack of the program. Journals: a record of some sectors; whether a list holds a number; blank sectors. -/
import Derived.Test.YtmbldnahcmkpgaaDoorDb
import Derived.Test.YtmbldnahcmkpgaaDoorAf
set_option linter.unusedSimpArgs false
set_option linter.unusedVariables false
namespace Go.Proofs.YtmbldnahcmkpgaaDoor
open Go.V Go.RowKit Go.U Go.L
end Go.Proofs.YtmbldnahcmkpgaaDoor

namespace Go.Jn
open Go.Dk (Bs)
/-- A step's text. -/
def stepText (size : Int) (fill : UInt8) : Bs := (List.range (min (max size 0) 8100).toNat).map fun k => fill + UInt8.ofNat k
theorem stepText_len (size : Int) (fill : UInt8) : (stepText size fill).length = (min (max size 0) 8100).toNat := by unfold stepText; simp
theorem stepText_le (size : Int) (fill : UInt8) : (stepText size fill).length ≤ 8100 := by rw [stepText_len]; omega
theorem stepText_get {size : Int} {fill : UInt8} {k : Nat} (h : k < (stepText size fill).length) : (stepText size fill).getD k 0 = fill + UInt8.ofNat k := by
  rw [stepText_len] at h
  unfold stepText
  rw [List.getD_eq_getElem?_getD, List.getElem?_map, List.getElem?_range h]; rfl
end Go.Jn
namespace Go.Proofs.YtmbldnahcmkpgaaDoor
open Go.V Go.RowKit Go.L Go.Lx Go.Jn Go.Dk
set_option maxRecDepth 10000
set_option maxHeartbeats 4000000
theorem u8_add (f : UInt8) (x : Nat) : IntKind.u8.wrap ((f.toNat : Nat) + IntKind.u8.wrap (x : Nat)) = ((f + UInt8.ofNat x).toNat : Nat) := by
  simp only [IntKind.wrap, IntKind.bits, IntKind.signed, UInt8.toNat_add, UInt8.toNat_ofNat']
  simp
theorem rtext_ok (k i b size : Int) (fill : UInt8) (pk : List Int) (hs : I64 size) : Ok Tryd.prog 17 [] [] (.pair (.pair (.int .i64 k) (.pair (.int .i64 i) (.pair (.int .i64 b) (.pair (.int .i64 size) (.pair (.int .u8 (fill.toNat : Nat)) (.pair (liV pk) .nul)))))) .nul) (fun r h' => r = .str (stepText size fill) ∧ h' = []) := by
  obtain ⟨hs1, hs2⟩ := hs
  have hlen := stepText_len size fill
  have hge := fun k (h : k < (stepText size fill).length) => stepText_get h
  have hmm : min (max size 0) 8100 = (((stepText size fill).length : Nat) : Int) := by rw [hlen]; omega
  have hle := stepText_le size fill
  generalize stepText size fill = S at *
  refine Ok.of_vcC tt_ok Tryd.func17 rfl rfl (by show 1 ≤ _; decide) 0 (hlt_ok (by rfl)) fun c0 => ?_
  repeat' (first | (refine SS_ ?_) | (refine Seq.val (max_ok (by rfl) (by rfl)) (by rfl) (by rfl) ?_) | (refine Seq.val (v := .int .i64 ((S.length : Nat) : Int)) (hmm ▸ min_ok (k := .i64) (by rfl) (by rfl)) (by rfl) (by rfl) ?_) | fail)
  refine VC.conv (Sim.ghost 4 1 (fun _ => .nul) (by rfl) (.inl rfl)) ?_
  refine VC.loop (fun x : Nat => ⟨[(5, .int .i64 (x : Nat)), (4, .sl 1 [] 1 0 x), (3, .int .i64 (S.length : Nat)), (1, .ptr 0 [])], [(1, .arr x 1 (fun j => .int .u8 ((S.getD j 0).toNat : Nat))), (0, .pair (.int .i64 k) (.pair (.int .i64 i) (.pair (.int .i64 b) (.pair (.int .i64 size) (.pair (.int .u8 (fill.toNat : Nat)) (.pair (liV pk) .nul))))))], [], 2⟩) (fun x => x ≤ S.length) (fun x => S.length - x) 0 (by omega) (by
    (refine Sim.less [] (by rfl) ?_ ?_ <;> (repeat' (first | (exact EnvLe.nil) | (exact HeapLe.nil) | (with_reducible apply EnvLe.cons) | (with_reducible apply HeapLe.cons) | ((with_reducible refine RelA.int ?_; first | (refine Keep.mk ?_; first | with_reducible rfl | omega | decide) | skip)) | (exact rfl) | (exact ⟨rfl, rfl⟩) | ((with_reducible refine RelA.rsl ?_; intro i hi)) | ((with_reducible refine RelA.arr ?_; intro i hi)) | (with_reducible refine RelA.pair ?_ ?_) | fail)) <;> (try with_reducible refine Keep.mk ?_))
    all_goals (exact absurd (by assumption) (Nat.not_lt_zero _))) fun x hx => ?_
  by_cases hxs : x < S.length
  · have hgx := hge x hxs
    repeat' (first | (refine SS_ ?_) | (refine VC.litT (by rfl) LTR_ ?_) | fail)
    refine ⟨x + 1, by omega, by omega, ?_⟩
    (refine Sim.less [(1, 3)] (by rfl) ?_ ?_ <;> (repeat' (first | (exact EnvLe.nil) | (exact HeapLe.nil) | (with_reducible apply EnvLe.cons) | (with_reducible apply HeapLe.cons) | ((with_reducible refine RelA.int ?_; first | (refine Keep.mk ?_; first | with_reducible rfl | omega | decide) | skip)) | (exact rfl) | (exact ⟨rfl, rfl⟩) | ((with_reducible refine RelA.rsl ?_; intro i hi)) | (with_reducible refine RelA.pair ?_ ?_) | ((refine RelA.arr ?_; intro i hi)) | fail)) <;> (try with_reducible refine Keep.mk ?_))
    by_cases h : i < x
    · rw [joinF_lt h]; exact rfl
    · obtain rfl : i = x := by omega
      rw [joinF_ge (Nat.le_refl _), Nat.sub_self, hgx, ← u8_add]; exact rfl
  · obtain rfl : x = S.length := by omega
    repeat' (first | (refine SS_ ?_) | (refine Seq.str (S) tt_ok (by rfl) (by rfl) (by rfl) (by rfl) (by rfl) (by (first | exact trivial | exact u8_in _ rfl | exact u32_in _ rfl | ((with_reducible refine AllP.guard ?_); simp only [AllP, inI, fitV, maxK, inK, inbL, inb, List.append, List.cons_append, List.nil_append, true_and, and_true]; first | done | omega))) (by rfl) (.inl rfl) (by rfl) rfl (rfl) (fun i hi => by first | exact rfl | simp only [Nat.zero_add]) ?_) | (refine VC.litF (by rfl) LFA_ ?_) | fail)
    (refine retC_mk ([(2, .str S)]) ([]) 2 (Sim.less [] (by rfl) R_ R_) (retQ_ok (by rfl) ([]) (fun i av h => h) ⟨?_, ?_⟩)) <;> rfl
end Go.Proofs.YtmbldnahcmkpgaaDoor

namespace Go.Proofs.YtmbldnahcmkpgaaDoor
open Go.V Go.RowKit Go.L Go.Lx Go.Jn Go.Dk
set_option maxRecDepth 10000
set_option maxHeartbeats 4000000
end Go.Proofs.YtmbldnahcmkpgaaDoor

namespace Go.Jn
open Go.Dk (Bs)
structure POk (p : Part) : Prop where
  num : p.num ≤ 4096
  part : p.part ≤ 200
  left : p.left ≤ 8000
  text : p.text.length ≤ 48
theorem POk.zero : POk noPart := ⟨Nat.zero_le _, Nat.zero_le _, Nat.zero_le _, Nat.zero_le _⟩
theorem unp_pok (s : Bs) : POk (unp s) := by
  by_cases h : Fine s
  · rw [unp_yes h]
    have h1 := h.n2; have h2 := h.small
    exact ⟨h1, by show secPart s ≤ 200; omega, by show secLeft s ≤ 8000; omega, by show ((s.drop 8).take _).length ≤ 48; rw [List.length_take]; omega⟩
  · rw [unp_no h]; exact POk.zero
theorem POk.get {L : List Part} (h : ∀ p ∈ L, POk p) (i : Nat) : POk (L.getD i noPart) := by
  rcases Nat.lt_or_ge i L.length with hi | hi
  · rw [List.getD_eq_getElem?_getD, List.getElem?_eq_getElem hi]; exact h _ (List.getElem_mem hi)
  · rw [List.getD_eq_getElem?_getD, List.getElem?_eq_none hi]; exact POk.zero
theorem isRec_iff {L : List Part} (hL : L ≠ []) : IsRec L ↔ (L.getD 0 noPart).ok = true ∧ (L.getD 0 noPart).part = 0 ∧ cnt (L.getD 0 noPart).left ≤ L.length ∧ ∀ k, k < cnt (L.getD 0 noPart).left → (L.getD k noPart).ok = true ∧ (L.getD k noPart).num = (L.getD 0 noPart).num ∧ (L.getD k noPart).part = k ∧ (L.getD k noPart).left + 48 * k = (L.getD 0 noPart).left := by
  cases L with
  | nil => exact absurd rfl hL
  | cons p r => exact Iff.rfl
theorem joined_len {L : List Part} (h : ∀ p ∈ L, POk p) : ∀ k, (joined L k).length ≤ 48 * k
  | 0 => Nat.le_refl _
  | k + 1 => by
    have h1 := joined_len h k
    have h2 := (POk.get h k).text
    rw [joined, List.length_append]; omega
end Go.Jn
namespace Go.Proofs.YtmbldnahcmkpgaaDoor
open Go.V Go.RowKit Go.L Go.Lx Go.Jn Go.Dk
set_option maxRecDepth 10000
set_option maxHeartbeats 4000000
abbrev partsV (L : List Part) : AV := .rsl false L.length 5 (fun i => partA (L.getD i noPart))
def recA (L : List Part) : AV := .tup (.pair (.str (if IsRec L then recText L else [])) (.pair (.int .i64 ((if IsRec L then cnt (L.getD 0 noPart).left else 0 : Nat) : Int)) (.pair (.bool (decide (IsRec L))) .nul)))
theorem recA_no {L : List Part} (h : ¬ IsRec L) : recA L = .tup (.pair (.str []) (.pair (.int .i64 0) (.pair (.bool false) .nul))) := by
  unfold recA; rw [if_neg h, if_neg h, decide_eq_false h]; rfl
theorem recA_yes {L : List Part} (h : IsRec L) : recA L = .tup (.pair (.str (joined L (cnt (L.getD 0 noPart).left))) (.pair (.int .i64 ((cnt (L.getD 0 noPart).left : Nat) : Int)) (.pair (.bool true) .nul))) := by
  unfold recA; rw [if_pos h, if_pos h, decide_eq_true h]; unfold recText; rw [headD_eq]
theorem record_ok (L : List Part) (hL : L ≠ []) (hl : L.length ≤ 4096) (ok : ∀ p ∈ L, POk p) : Ok Tryd.prog 34 [] [] (.pair (partsV L) .nul) (fun r h' => r = recA L ∧ h' = []) := by
  have hi := isRec_iff hL
  have hpos : 0 < L.length := List.length_pos_iff.2 hL
  have hg := fun i => POk.get ok i
  have hj := joined_len ok
  have h0 := hg 0
  have hn := h0.num; have hp := h0.part; have hf := h0.left
  have cc := count_ok ((L.getD 0 noPart).left : Nat) ⟨by omega, by omega⟩
  have hcn := cnt_le ((L.getD 0 noPart).left : Nat)
  have hy := fun h => recA_yes (L := L) h
  have hz := fun h => recA_no (L := L) h
  refine Ok.of_vcC tt_ok Tryd.func34 rfl rfl (by show 1 ≤ _; decide) 0 (hlt_ok (by rfl)) fun c0 => ?_
  repeat' (first | (refine SS_ ?_) | (refine Seq.callp false (cc) Tryd.func11 GOk.nil subG.nil (by rfl) (by rfl) rfl rfl rfl rfl rfl (by rfl) rfl VW_ NI_ NI_ FR_ ?_) | (refine VC.litT (by rfl) LTR_ ?_) | (refine Seq.litC (by rfl) (by rfl) (fun hb => ?_) (fun hb => ?_) <;> (fail_if_success (with_reducible have := litT_ hb)) <;> (fail_if_success (with_reducible have := litF_ hb)) <;> (try simp only [HB_] at hb) <;> (try (exfalso; first | omega | (cases hb; done)))) | (refine VC.cond (by rfl) (fun hb => ?_) (fun hb => ?_) <;> (fail_if_success (with_reducible have := litT_ hb)) <;> (fail_if_success (with_reducible have := litF_ hb)) <;> (try simp only [HB_] at hb) <;> (try (exfalso; first | omega | (cases hb; done)))) | fail)
  · rw [hz (fun h => by have q1 := (hi.1 h).1; have hb2 : (L.getD 0 noPart).ok = false := hb; rw [q1] at hb2; cases hb2)]
    (refine retC_mk ([(2, .str []), (3, .int .i64 0), (4, .bool false)]) ([]) 1 (Sim.less [] (by rfl) R_ R_) (retQ_ok (by rfl) ([]) (fun i av h => h) ⟨?_, ?_⟩)) <;> rfl
  · rw [hz (fun h => by have q1 := (hi.1 h).2.1; have hb2 : ¬ (((L.getD 0 noPart).part : Nat) : Int) = 0 := hb; omega)]
    (refine retC_mk ([(2, .str []), (3, .int .i64 0), (4, .bool false)]) ([]) 1 (Sim.less [] (by rfl) R_ R_) (retQ_ok (by rfl) ([]) (fun i av h => h) ⟨?_, ?_⟩)) <;> rfl
  · rw [hz (fun h => by have q1 := (hi.1 h).2.2.1; omega)]
    (refine retC_mk ([(2, .str []), (3, .int .i64 0), (4, .bool false)]) ([]) 1 (Sim.less [] (by rfl) R_ R_) (retQ_ok (by rfl) ([]) (fun i av h => h) ⟨?_, ?_⟩)) <;> rfl
  rename_i hok hpart
  have hok : (L.getD 0 noPart).ok = true := hok
  have hpart : (((L.getD 0 noPart).part : Nat) : Int) = 0 := by
    have hp2 : ¬ ¬ (((L.getD 0 noPart).part : Nat) : Int) = 0 := by simpa using hpart
    omega
  have hcl : cnt ((L.getD 0 noPart).left : Nat) ≤ L.length := by omega
  refine VC.loop (fun k : Nat => ⟨[(34, .int .i64 (k : Nat)), (33, .int .i64 (cnt ((L.getD 0 noPart).left : Nat) : Nat)), (32, .rsl false (cnt ((L.getD 0 noPart).left : Nat)) 5 (fun i => partA (L.getD i noPart))), (7, .str (joined L k)), (6, .int .i64 (cnt ((L.getD 0 noPart).left : Nat) : Nat)), (5, .ptr 0 [])], [(0, partA (L.getD 0 noPart))], [], 1⟩) (fun k => k ≤ cnt ((L.getD 0 noPart).left : Nat) ∧ ∀ j, j < k → (L.getD j noPart).ok = true ∧ (L.getD j noPart).num = (L.getD 0 noPart).num ∧ (L.getD j noPart).part = j ∧ (L.getD j noPart).left + 48 * j = (L.getD 0 noPart).left) (fun k => cnt ((L.getD 0 noPart).left : Nat) - k) 0 ⟨Nat.zero_le _, fun j hj => absurd hj (Nat.not_lt_zero _)⟩ (by
    rw [Nat.sub_zero, Int.toNat_natCast]
    (refine Sim.less [] (by rfl) ?_ ?_ <;> (repeat' (first | (exact EnvLe.nil) | (exact HeapLe.nil) | (with_reducible apply EnvLe.cons) | (with_reducible apply HeapLe.cons) | ((with_reducible refine RelA.int ?_; first | (refine Keep.mk ?_; first | with_reducible rfl | omega | decide) | skip)) | (exact rfl) | (exact ⟨rfl, rfl⟩) | ((with_reducible refine RelA.rsl ?_; intro i hi)) | (with_reducible refine RelA.pair ?_ ?_) | fail)) <;> (try with_reducible refine Keep.mk ?_))
    all_goals first | exact rfl | (rw [Nat.zero_add]; done) | (rw [Nat.zero_add]; exact rfl)) fun k hk => ?_
  obtain ⟨hk1, hk2⟩ := hk
  by_cases hkc : k < cnt ((L.getD 0 noPart).left : Nat)
  · have hgk := hg ((k : Int)).toNat
    have t1 := hgk.num; have t2 := hgk.part; have t3 := hgk.left; have t4 := hgk.text
    have hjk := hj k
    have ek : L.getD ((k : Int)).toNat noPart = L.getD k noPart := by rw [Int.toNat_natCast]
    have hik := fun h => (hi.1 h).2.2.2 k hkc
    rw [← ek] at hik
    repeat' (first | (refine SS_ ?_) | (refine VC.litT (by rfl) LTR_ ?_) | (refine Seq.litC (by rfl) (by rfl) (fun hb => ?_) (fun hb => ?_) <;> (fail_if_success (with_reducible have := litT_ hb)) <;> (fail_if_success (with_reducible have := litF_ hb)) <;> (try simp only [HB_] at hb) <;> (try (exfalso; first | omega | (cases hb; done)))) | (refine VC.cond (by rfl) (fun hb => ?_) (fun hb => ?_) <;> (fail_if_success (with_reducible have := litT_ hb)) <;> (fail_if_success (with_reducible have := litF_ hb)) <;> (try simp only [HB_] at hb) <;> (try (exfalso; first | omega | (cases hb; done)))) | fail)
    · rw [hz (fun h => by have q1 := (hik h).1; rw [hb] at q1; cases q1)]
      (refine retC_mk ([(2, .str []), (3, .int .i64 0), (4, .bool false)]) ([]) 2 (Sim.less [] (by rfl) R_ R_) (retQ_ok (by rfl) ([]) (fun i av h => h) ⟨?_, ?_⟩)) <;> rfl
    · rw [hz (fun h => by have q1 := hik h; omega)]
      (refine retC_mk ([(2, .str []), (3, .int .i64 0), (4, .bool false)]) ([]) 2 (Sim.less [] (by rfl) R_ R_) (retQ_ok (by rfl) ([]) (fun i av h => h) ⟨?_, ?_⟩)) <;> rfl
    · rw [hz (fun h => by have q1 := hik h; omega)]
      (refine retC_mk ([(2, .str []), (3, .int .i64 0), (4, .bool false)]) ([]) 2 (Sim.less [] (by rfl) R_ R_) (retQ_ok (by rfl) ([]) (fun i av h => h) ⟨?_, ?_⟩)) <;> rfl
    · rw [hz (fun h => by have q1 := hik h; omega)]
      (refine retC_mk ([(2, .str []), (3, .int .i64 0), (4, .bool false)]) ([]) 2 (Sim.less [] (by rfl) R_ R_) (retQ_ok (by rfl) ([]) (fun i av h => h) ⟨?_, ?_⟩)) <;> rfl
    · rename_i o1 o2 o3
      refine ⟨k + 1, ⟨by omega, fun j hj => ?_⟩, by omega, ?_⟩
      · by_cases e : j = k
        · rw [e, ← ek]
          exact ⟨o1, by omega, by omega, by omega⟩
        · exact hk2 j (by omega)
      · rw [ek]
        show ∀ a w, _ → Sim _ ⟨[(34, .int .i64 ((k + 1 : Nat) : Int)), (33, .int .i64 (cnt ((L.getD 0 noPart).left : Nat) : Nat)), (32, .rsl false (cnt ((L.getD 0 noPart).left : Nat)) 5 (fun i => partA (L.getD i noPart))), (7, .str (joined L k ++ (L.getD k noPart).text)), (6, .int .i64 (cnt ((L.getD 0 noPart).left : Nat) : Nat)), (5, .ptr 0 [])], [(0, partA (L.getD 0 noPart))], [], 1⟩ a w
        exact (Sim.less [] (by rfl) R_ R_)
  · obtain rfl : k = cnt ((L.getD 0 noPart).left : Nat) := by omega
    rw [hy (hi.2 ⟨hok, by omega, hcl, hk2⟩)]
    repeat' (first | (refine SS_ ?_) | (refine VC.litF (by rfl) LFA_ ?_) | fail)
    (refine retC_mk ([(2, .str (joined L (cnt ((L.getD 0 noPart).left : Nat)))), (3, .int .i64 (cnt ((L.getD 0 noPart).left : Nat) : Nat)), (4, .bool true)]) ([]) 1 (Sim.less [] (by rfl) R_ R_) (retQ_ok (by rfl) ([]) (fun i av h => h) ⟨?_, ?_⟩)) <;> rfl
end Go.Proofs.YtmbldnahcmkpgaaDoor
