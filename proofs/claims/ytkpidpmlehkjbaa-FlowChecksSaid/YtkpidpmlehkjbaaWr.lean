/- Flow: the balances of all nodes. -/
import Derived.Test.YtkpidpmlehkjbaaWq
set_option linter.unusedSimpArgs false
set_option linter.unusedVariables false
namespace Go.Fl
/-- The balance by the first k edges. -/
def bak (l : List Ed) (F : List Int) (k : Nat) (v : Int) : Int := bal (l.take k) (F.take k) v
theorem bak_step {l : List Ed} {F : List Int} (hl : F.length = l.length) {k : Nat} (hk : k < l.length) (v : Int) : bak l F (k + 1) v = bak l F k v + ((if (l.getD k edZ).b = v then F.getD k 0 else 0) - (if (l.getD k edZ).a = v then F.getD k 0 else 0)) := by
  unfold bak
  rw [Go.Lx.take_snoc (d := edZ) hk, Go.Lx.take_snoc (d := (0 : Int)) (show k < F.length by omega), bal_app v (by rw [List.length_take, List.length_take]; omega)]
  simp [bal]
theorem bak_all {l : List Ed} {F : List Int} (hl : F.length = l.length) (v : Int) : bak l F l.length v = bal l F v := by
  unfold bak
  rw [List.take_of_length_le (Nat.le_refl _), List.take_of_length_le (by omega)]
theorem bak_bd {l : List Ed} {F : List Int} (hl : F.length = l.length) (hF : ∀ k, k < l.length → 0 ≤ F.getD k 0 ∧ F.getD k 0 ≤ 1000) (v : Int) : ∀ k : Nat, k ≤ l.length → -(1000 * (k : Int)) ≤ bak l F k v ∧ bak l F k v ≤ 1000 * (k : Int)
  | 0, _ => by
    have : bak l F 0 v = 0 := by unfold bak; simp [bal]
    omega
  | k + 1, hk => by
    have ih := bak_bd hl hF v k (by omega)
    have := hF k (by omega)
    rw [bak_step hl (by omega)]
    split <;> split <;> omega
theorem NetOk.flow {n : Nat} {l : List Ed} (h : NetOk n l) {F : List Int} (hF : inB l F) : ∀ k, k < l.length → 0 ≤ F.getD k 0 ∧ F.getD k 0 ≤ 1000 := fun k hk => by
  have := (inB_iff.1 hF).2 k hk
  have := h.get hk
  omega
end Go.Fl
namespace Go.Proofs.Ytkpidpmlehkjbaa
open Go.V Go.RowKit Go.L Go.Lx Go.Fl
set_option maxRecDepth 10000
set_option maxHeartbeats 4000000
abbrev bkO (n : Nat) (g : Int → Int) : AV := .arr n 1 (fun i => .int .i64 (g (i : Nat)))
theorem bals_eq {n : Nat} {l : List Ed} {F : List Int} : (bals n l F).length = n := by rw [bals, List.length_map, List.length_range]
theorem rel_bif {A : Nat → Prop} {σ : Nat → Nat} {x y z : Int} {i j : Nat} (h1 : i = j → x = y) (h2 : i ≠ j → x = z) : RelA A σ (.int .i64 x) (bif Nat.beq i j then .int .i64 y else .int .i64 z) := by
  by_cases h : i = j
  · rw [bif_eq h, h1 h]; exact NoId.self NI_
  · rw [bif_ne h, h2 h]; exact NoId.self NI_
theorem excess_ok {n : Nat} {l : List Ed} {F : List Int} (ok : NetOk n l) (hF : inB l F) : Ok Try.prog 36 [] (nH n l F) (.pair (.ptr 0 []) .nul) (fun r h' => r = .sl 2 [] 1 0 n ∧ h' = [(2, .arr n 1 (fun i => .int .i64 ((bals n l F).getD i 0))), (0, netA n l), (1, liO F)]) := by
  have hlen := (inB_iff.1 hF).1
  have hfl := ok.flow hF
  have hn64 := ok.n64
  have hl256 := ok.l256
  refine Ok.of_vcC tt_ok Try.func36 rfl rfl (by show 1 ≤ _; decide) 2 (hlt_ok (by rfl)) fun c0 => ?_
  repeat' (first | (refine SS_ ?_) | fail)
  refine VC.loop (fun k : Nat => ⟨[(16, .int .i64 (k : Nat)), (15, .int .i64 l.length), (14, edV l), (3, .sl 2 [] 1 0 n), (0, .ptr 0 [])], (2, bkO n (bak l F k)) :: nH n l F, [], 3⟩) (fun k => k ≤ l.length) (fun k => l.length - k) 0 (by omega) (by
    exact (Sim.less [] (by rfl) R_ R_)
    all_goals skip) fun k hk => ?_
  by_cases hkl : k < l.length
  · have he := ok.get hkl
    have hf := hfl k hkl
    have hkk : ((k : Nat) : Int).toNat = k := Int.toNat_natCast k
    have hb0 := fun v => bak_bd hlen hfl v k (by omega)
    have hst := bak_step hlen hkl
    have h1 := hb0 ((0 + (l.getD ((k : Nat) : Int).toNat edZ).b.toNat : Nat) : Int)
    rw [← hkk] at he
    have hf0 : 0 ≤ F.getD (0 + ((k : Nat) : Int).toNat) 0 ∧ F.getD (0 + ((k : Nat) : Int).toNat) 0 ≤ 1000 := by rw [hkk, Nat.zero_add]; exact hf
    generalize hg : bak l F k = g at *
    repeat' (first | (refine SS_ ?_) | (refine VC.drawm (id := 5) [(0, 0), (1, 0), (2, 2), (3, 7), (4, 15), (5, 0), (6, 32), (7, 96), (8, 224), (9, 0), (10, 992), (11, 2016), (12, 4095), (13, 8191)] [14] (by rfl) (by kernel_rfl) (by rfl) ?_) | (refine VC.litT (by rfl) LTR_ ?_) | (refine DD_ ?_) | fail)
    refine VC.conv (s' := ⟨[(3, .sl 2 [] 1 0 n), (0, .ptr 0 []), (4, .int .i64 (k : Nat)), (5, .ptr 3 []), (16, .int .i64 (k : Nat)), (15, .int .i64 l.length), (14, edV l)], (2, bkO n (fun v => g v + (if (l.getD ((k : Nat) : Int).toNat edZ).b = v then F.getD (0 + ((k : Nat) : Int).toNat) 0 else 0))) :: (3, edA (l.getD ((k : Nat) : Int).toNat edZ)) :: nH n l F, [], 4⟩) (by
      (refine Sim.less [] (by rfl) ?_ ?_ <;> (repeat' (first | (exact EnvLe.nil) | (exact HeapLe.nil) | (with_reducible apply EnvLe.cons) | (with_reducible apply HeapLe.cons) | ((with_reducible refine RelA.int ?_; first | (refine Keep.mk ?_; first | with_reducible rfl | omega | decide) | skip)) | (exact rfl) | (exact ⟨rfl, rfl⟩) | ((with_reducible refine RelA.rsl ?_; intro i hi)) | ((with_reducible refine RelA.arr ?_; intro i hi)) | (with_reducible refine RelA.pair ?_ ?_) | fail)) <;> (try with_reducible refine Keep.mk ?_))
      refine rel_bif (fun h => ?_) (fun h => ?_)
      · show g i + (if (l.getD ((k : Nat) : Int).toNat edZ).b = (i : Int) then F.getD (0 + ((k : Nat) : Int).toNat) 0 else 0) = _
        rw [h, if_pos (by omega)]
      · show g i + (if (l.getD ((k : Nat) : Int).toNat edZ).b = (i : Int) then F.getD (0 + ((k : Nat) : Int).toNat) 0 else 0) = _
        rw [if_neg (by omega), Int.add_zero]) ?_
    have h2 : -(1000 * (k : Int)) - 1000 ≤ (fun v => g v + (if (l.getD ((k : Nat) : Int).toNat edZ).b = v then F.getD (0 + ((k : Nat) : Int).toNat) 0 else 0)) ((0 + (l.getD ((k : Nat) : Int).toNat edZ).a.toNat : Nat) : Int) ∧ (fun v => g v + (if (l.getD ((k : Nat) : Int).toNat edZ).b = v then F.getD (0 + ((k : Nat) : Int).toNat) 0 else 0)) ((0 + (l.getD ((k : Nat) : Int).toNat edZ).a.toNat : Nat) : Int) ≤ 1000 * (k : Int) + 1000 := by
      have := hb0 ((0 + (l.getD ((k : Nat) : Int).toNat edZ).a.toNat : Nat) : Int)
      show _ ≤ g _ + (if _ then _ else _) ∧ g _ + (if _ then _ else _) ≤ _
      split <;> omega
    generalize hg2 : (fun v => g v + (if (l.getD ((k : Nat) : Int).toNat edZ).b = v then F.getD (0 + ((k : Nat) : Int).toNat) 0 else 0)) = g2 at *
    repeat' (first | (refine SS_ ?_) | (refine VC.drawm (id := 6) [(0, 0), (1, 0), (2, 2), (3, 7), (4, 15), (5, 0), (6, 32), (7, 96), (8, 224), (9, 0), (10, 992), (11, 2016), (12, 4095), (13, 8191)] [14] (by rfl) (by kernel_rfl) (by rfl) ?_) | (refine DD_ ?_) | fail)
    refine ⟨k + 1, by omega, by omega, ?_⟩
    (refine Sim.less [] (by rfl) ?_ ?_ <;> (repeat' (first | (exact EnvLe.nil) | (exact HeapLe.nil) | (with_reducible apply EnvLe.cons) | (with_reducible apply HeapLe.cons) | ((with_reducible refine RelA.int ?_; first | (refine Keep.mk ?_; first | with_reducible rfl | omega | decide) | skip)) | (exact rfl) | (exact ⟨rfl, rfl⟩) | ((with_reducible refine RelA.rsl ?_; intro i hi)) | ((with_reducible refine RelA.arr ?_; intro i hi)) | (with_reducible refine RelA.pair ?_ ?_) | fail)) <;> (try with_reducible refine Keep.mk ?_))
    have hs := hst (i : Int)
    rw [show l.getD k edZ = (l.getD ((k : Nat) : Int).toNat edZ) by rw [hkk], show F.getD k 0 = F.getD (0 + ((k : Nat) : Int).toNat) 0 by rw [hkk, Nat.zero_add]] at hs
    have hs : bak l F (k + 1) i = g2 i - (if (l.getD ((k : Nat) : Int).toNat edZ).a = (i : Int) then F.getD (0 + ((k : Nat) : Int).toNat) 0 else 0) := by
      rw [← hg2]
      show _ = g i + _ - _
      omega
    refine rel_bif (fun h => ?_) (fun h => ?_)
    · rw [hs, h, if_pos (by omega)]
    · rw [hs, if_neg (by omega), Int.sub_zero]
  · repeat' (first | (refine SS_ ?_) | (refine VC.litF (by rfl) LFA_ ?_) | fail)
    obtain rfl : k = l.length := by omega
    refine retC_mk ([(2, .sl 2 [] 1 0 n)]) ([(2, .arr n 1 (fun i => .int .i64 ((bals n l F).getD i 0))), (0, netA n l), (1, liO F)]) 3 ?_ (retQ_ok (by rfl) ([(2, .arr n 1 (fun i => .int .i64 ((bals n l F).getD i 0))), (0, netA n l), (1, liO F)]) (fun i av h => h) ⟨?_, ?_⟩)
    · (refine Sim.less [] (by rfl) ?_ ?_ <;> (repeat' (first | (exact EnvLe.nil) | (exact HeapLe.nil) | (with_reducible apply EnvLe.cons) | (with_reducible apply HeapLe.cons) | ((with_reducible refine RelA.int ?_; first | (refine Keep.mk ?_; first | with_reducible rfl | omega | decide) | skip)) | (exact rfl) | (exact ⟨rfl, rfl⟩) | ((with_reducible refine RelA.rsl ?_; intro i hi)) | ((with_reducible refine RelA.arr ?_; intro i hi)) | (with_reducible refine RelA.pair ?_ ?_) | fail)) <;> (try with_reducible refine Keep.mk ?_))
      rw [bals_get hi, ← bak_all hlen]
    · rfl
    · rfl
/-- The network that Check makes. -/
abbrev cnA (n : Nat) (l : List Ed) (F : List Int) : AV := .pair (.int .i64 n) (.pair (edV l) (.pair (liV F) (.pair (.val (.slice none 0 0)) .nul)))
abbrev cH (n : Nat) (l : List Ed) (F : List Int) : Asc := [(0, cnA n l F)]
theorem excessC_ok {n : Nat} {l : List Ed} {F : List Int} (ok : NetOk n l) (hF : inB l F) : Ok Try.prog 36 [] (cH n l F) (.pair (.ptr 0 []) .nul) (fun r h' => r = .sl 1 [] 1 0 n ∧ h' = [(1, .arr n 1 (fun i => .int .i64 ((bals n l F).getD i 0))), (0, cnA n l F)]) := by
  have hlen := (inB_iff.1 hF).1
  have hfl := ok.flow hF
  have hn64 := ok.n64
  have hl256 := ok.l256
  refine Ok.of_vcC tt_ok Try.func36 rfl rfl (by show 1 ≤ _; decide) 1 (hlt_ok (by rfl)) fun c0 => ?_
  repeat' (first | (refine SS_ ?_) | fail)
  refine VC.loop (fun k : Nat => ⟨[(16, .int .i64 (k : Nat)), (15, .int .i64 l.length), (14, edV l), (3, .sl 1 [] 1 0 n), (0, .ptr 0 [])], (1, bkO n (bak l F k)) :: cH n l F, [], 2⟩) (fun k => k ≤ l.length) (fun k => l.length - k) 0 (by omega) (by
    exact (Sim.less [] (by rfl) R_ R_)
    all_goals skip) fun k hk => ?_
  by_cases hkl : k < l.length
  · have he := ok.get hkl
    have hf := hfl k hkl
    have hkk : ((k : Nat) : Int).toNat = k := Int.toNat_natCast k
    have hb0 := fun v => bak_bd hlen hfl v k (by omega)
    have hst := bak_step hlen hkl
    have h1 := hb0 ((0 + (l.getD ((k : Nat) : Int).toNat edZ).b.toNat : Nat) : Int)
    rw [← hkk] at he
    have hf0 : 0 ≤ F.getD ((k : Nat) : Int).toNat 0 ∧ F.getD ((k : Nat) : Int).toNat 0 ≤ 1000 := by rw [hkk]; exact hf
    generalize hg : bak l F k = g at *
    repeat' (first | (refine SS_ ?_) | (refine VC.drawm (id := 5) [(0, 0), (1, 0), (2, 2), (3, 7), (4, 15), (5, 0), (6, 32), (7, 96), (8, 224), (9, 0), (10, 992), (11, 2016), (12, 4095), (13, 8191)] [14] (by rfl) (by kernel_rfl) (by rfl) ?_) | (refine VC.litT (by rfl) LTR_ ?_) | (refine DD_ ?_) | fail)
    refine VC.conv (s' := ⟨[(3, .sl 1 [] 1 0 n), (0, .ptr 0 []), (4, .int .i64 (k : Nat)), (5, .ptr 2 []), (16, .int .i64 (k : Nat)), (15, .int .i64 l.length), (14, edV l)], (1, bkO n (fun v => g v + (if (l.getD ((k : Nat) : Int).toNat edZ).b = v then F.getD ((k : Nat) : Int).toNat 0 else 0))) :: (2, edA (l.getD ((k : Nat) : Int).toNat edZ)) :: cH n l F, [], 3⟩) (by
      (refine Sim.less [] (by rfl) ?_ ?_ <;> (repeat' (first | (exact EnvLe.nil) | (exact HeapLe.nil) | (with_reducible apply EnvLe.cons) | (with_reducible apply HeapLe.cons) | ((with_reducible refine RelA.int ?_; first | (refine Keep.mk ?_; first | with_reducible rfl | omega | decide) | skip)) | (exact rfl) | (exact ⟨rfl, rfl⟩) | ((with_reducible refine RelA.rsl ?_; intro i hi)) | ((with_reducible refine RelA.arr ?_; intro i hi)) | (with_reducible refine RelA.pair ?_ ?_) | fail)) <;> (try with_reducible refine Keep.mk ?_))
      refine rel_bif (fun h => ?_) (fun h => ?_)
      · show g i + (if (l.getD ((k : Nat) : Int).toNat edZ).b = (i : Int) then F.getD ((k : Nat) : Int).toNat 0 else 0) = _
        rw [h, if_pos (by omega)]
      · show g i + (if (l.getD ((k : Nat) : Int).toNat edZ).b = (i : Int) then F.getD ((k : Nat) : Int).toNat 0 else 0) = _
        rw [if_neg (by omega), Int.add_zero]) ?_
    have h2 : -(1000 * (k : Int)) - 1000 ≤ (fun v => g v + (if (l.getD ((k : Nat) : Int).toNat edZ).b = v then F.getD ((k : Nat) : Int).toNat 0 else 0)) ((0 + (l.getD ((k : Nat) : Int).toNat edZ).a.toNat : Nat) : Int) ∧ (fun v => g v + (if (l.getD ((k : Nat) : Int).toNat edZ).b = v then F.getD ((k : Nat) : Int).toNat 0 else 0)) ((0 + (l.getD ((k : Nat) : Int).toNat edZ).a.toNat : Nat) : Int) ≤ 1000 * (k : Int) + 1000 := by
      have := hb0 ((0 + (l.getD ((k : Nat) : Int).toNat edZ).a.toNat : Nat) : Int)
      show _ ≤ g _ + (if _ then _ else _) ∧ g _ + (if _ then _ else _) ≤ _
      split <;> omega
    generalize hg2 : (fun v => g v + (if (l.getD ((k : Nat) : Int).toNat edZ).b = v then F.getD ((k : Nat) : Int).toNat 0 else 0)) = g2 at *
    repeat' (first | (refine SS_ ?_) | (refine VC.drawm (id := 6) [(0, 0), (1, 0), (2, 2), (3, 7), (4, 15), (5, 0), (6, 32), (7, 96), (8, 224), (9, 0), (10, 992), (11, 2016), (12, 4095), (13, 8191)] [14] (by rfl) (by kernel_rfl) (by rfl) ?_) | (refine DD_ ?_) | fail)
    refine ⟨k + 1, by omega, by omega, ?_⟩
    (refine Sim.less [] (by rfl) ?_ ?_ <;> (repeat' (first | (exact EnvLe.nil) | (exact HeapLe.nil) | (with_reducible apply EnvLe.cons) | (with_reducible apply HeapLe.cons) | ((with_reducible refine RelA.int ?_; first | (refine Keep.mk ?_; first | with_reducible rfl | omega | decide) | skip)) | (exact rfl) | (exact ⟨rfl, rfl⟩) | ((with_reducible refine RelA.rsl ?_; intro i hi)) | ((with_reducible refine RelA.arr ?_; intro i hi)) | (with_reducible refine RelA.pair ?_ ?_) | fail)) <;> (try with_reducible refine Keep.mk ?_))
    have hs := hst (i : Int)
    rw [show l.getD k edZ = (l.getD ((k : Nat) : Int).toNat edZ) by rw [hkk], show F.getD k 0 = F.getD ((k : Nat) : Int).toNat 0 by rw [hkk]] at hs
    have hs : bak l F (k + 1) i = g2 i - (if (l.getD ((k : Nat) : Int).toNat edZ).a = (i : Int) then F.getD ((k : Nat) : Int).toNat 0 else 0) := by
      rw [← hg2]
      show _ = g i + _ - _
      omega
    refine rel_bif (fun h => ?_) (fun h => ?_)
    · rw [hs, h, if_pos (by omega)]
    · rw [hs, if_neg (by omega), Int.sub_zero]
  · repeat' (first | (refine SS_ ?_) | (refine VC.litF (by rfl) LFA_ ?_) | fail)
    obtain rfl : k = l.length := by omega
    refine retC_mk ([(2, .sl 1 [] 1 0 n)]) ([(1, .arr n 1 (fun i => .int .i64 ((bals n l F).getD i 0))), (0, cnA n l F)]) 2 ?_ (retQ_ok (by rfl) ([(1, .arr n 1 (fun i => .int .i64 ((bals n l F).getD i 0))), (0, cnA n l F)]) (fun i av h => h) ⟨?_, ?_⟩)
    · (refine Sim.less [] (by rfl) ?_ ?_ <;> (repeat' (first | (exact EnvLe.nil) | (exact HeapLe.nil) | (with_reducible apply EnvLe.cons) | (with_reducible apply HeapLe.cons) | ((with_reducible refine RelA.int ?_; first | (refine Keep.mk ?_; first | with_reducible rfl | omega | decide) | skip)) | (exact rfl) | (exact ⟨rfl, rfl⟩) | ((with_reducible refine RelA.rsl ?_; intro i hi)) | ((with_reducible refine RelA.arr ?_; intro i hi)) | (with_reducible refine RelA.pair ?_ ?_) | fail)) <;> (try with_reducible refine Keep.mk ?_))
      rw [bals_get hi, ← bak_all hlen]
    · rfl
    · rfl
end Go.Proofs.Ytkpidpmlehkjbaa
