/- Flow: Least of the reference, its cost. Flow: the law's small functions. -/
import Derived.Test.YtkpidpmlehkjbaaZc
set_option linter.unusedSimpArgs false
set_option linter.unusedVariables false
namespace Go.Fl
/-- The reference's circulation with the least cost. -/
def refO (n : Nat) (l : List Ed) : Option (List Int) := (fstO n l).map (can 1 n l (fc l))
def chO (n : Nat) (l : List Ed) (F : List Int) : Option (List Int) := if (lvs n l F).last < 0 then none else some (chp 1 n l F)
end Go.Fl
namespace Go.Proofs.Ytkpidpmlehkjbaa
open Go.V Go.RowKit Go.L Go.Lx Go.Fl
set_option maxRecDepth 10000
set_option maxHeartbeats 4000000
/-- A list, or none, and whether there is one. -/
abbrev opV (o : Option (List Int)) : AV := .tup (.pair (lsV (optL o)) (.pair (.bool o.isSome) .nul))
theorem cheaper_ok {n : Nat} {l : List Ed} {F : List Int} (ok : NetOk n l) (hF : inB l F) : Ok Try.prog 41 [] [] (.pair (.int .i64 (n : Nat)) (.pair (edV l) (.pair (liV F) .nul))) (fun r h' => r = opV (chO n l F) ∧ h' = []) := by
  refine Ok.still (cheaper_walk ok hF) ?_
  rintro r h' ⟨rfl, rfl⟩
  unfold chV chR chO
  by_cases hl : (lvs n l F).last < 0
  · rw [if_pos hl, if_pos hl, if_pos hl]
    exact ⟨_, .tup (.pair .nil (.pair (.rel (NoId.self (a := .bool false) NI_)) (.rel (NoId.self (a := .nul) NI_)))), rfl, rfl⟩
  · rw [if_neg hl, if_neg hl, if_neg hl]
    exact ⟨_, .tup (.pair (viewT_li (by rfl) rfl fun i _ => rfl) (.pair (.rel (NoId.self (a := .bool true) NI_)) (.rel (NoId.self (a := .nul) NI_)))), rfl, rfl⟩
theorem rleast_ok {n : Nat} {l : List Ed} (ok : NetOk n l) : Ok Try.prog 28 [] [] (.pair (.int .i64 (n : Nat)) (.pair (edV l) .nul)) (fun r h' => r = opV (refO n l) ∧ h' = []) := by
  have hn := ok.nodes
  have c1 := first_ok ok
  have h1 := fst1_ok hn (fq n l) (F := los l) (los_in fun e he => (ok.ed e he).2.2.2.2.2.1) (by unfold fq; have := exc_nn n l (los l); omega)
  unfold refO
  unfold fstO at *
  rcases h1 with ⟨F, hF, h2, h3⟩ | ⟨h2, _⟩
  · rw [hF] at c1 ⊢
    obtain ⟨G, hG⟩ : ∃ G, can 1 n l (fc l) F = G := ⟨_, rfl⟩
    show Ok _ _ _ _ _ (fun r h' => r = .tup (.pair (lsV (can 1 n l (fc l) F)) (.pair (.bool true) .nul)) ∧ h' = [])
    rw [hG]
    replace c1 : Ok Try.prog 25 [] [] (.pair (.int .i64 (n : Nat)) (.pair (edV l) .nul)) (fun r h' => r = .tup (.pair (lsV F) (.pair (.bool true) .nul)) ∧ h' = []) := c1
    refine Ok.of_vcC tt_ok Try.func28 rfl rfl (by show 2 ≤ _; decide) 0 (hlt_ok (by rfl)) fun c0 => ?_
    repeat' (first | (refine SS_ ?_) | (refine Seq.callp false (c1) Try.func25 GOk.nil subG.nil (by rfl) (by rfl) rfl rfl rfl rfl rfl (by rfl) rfl VW_ NI_ NI_ FR_ ?_) | (refine VC.litF (by rfl) LFA_ ?_) | fail)
    refine VC.loop (fun k : Nat × List Int => ⟨[(6, lsV k.2), (1, edV l), (0, .int .i64 (n : Nat))], [], [], 0⟩) (fun k => inB l k.2 ∧ circ n l k.2 ∧ cost l k.2 + (l.length : Int) * 1000000 < k.1 ∧ can 1 n l k.1 k.2 = G) (fun k => k.1) (fc l, F) ⟨h2, h3, by
      have := (ok.cost h2).2
      show cost l F + (l.length : Int) * 1000000 < ((2 * (l.length * 1000000) + 1 : Nat) : Int)
      omega, hG⟩ (Sim.less [] (by rfl) R_ R_) fun k hk => ?_
    obtain ⟨q, F⟩ := k
    obtain ⟨hF, hc, hq, hG⟩ := hk
    replace hF : inB l F := hF
    replace hc : circ n l F := hc
    replace hq : cost l F + (l.length : Int) * 1000000 < q := hq
    replace hG : can 1 n l q F = G := hG
    obtain ⟨q, rfl⟩ : ∃ q', q = q' + 1 := ⟨q - 1, by have := (ok.cost hF).1; omega⟩
    have c2 := cheaper_ok ok hF
    unfold chO at c2
    rw [can] at hG
    refine VC.conv (s' := ⟨[(6, lsV F), (1, edV l), (0, .int .i64 (n : Nat))], [], [], 0⟩) (fun a w h => h) ?_
    by_cases hl : (lvs n l F).last < 0
    · rw [if_pos hl] at c2 hG
      subst hG
      replace c2 : Ok Try.prog 41 [] [] (.pair (.int .i64 (n : Nat)) (.pair (edV l) (.pair (liV F) .nul))) (fun r h' => r = .tup (.pair (lsV []) (.pair (.bool false) .nul)) ∧ h' = []) := c2
      repeat' (first | (refine SS_ ?_) | (refine Seq.callp false (c2) Try.func41 GOk.nil subG.nil (by rfl) (by rfl) rfl rfl rfl rfl rfl (by rfl) rfl VW_ NI_ NI_ FR_ ?_) | (refine VC.litT (by rfl) LTR_ ?_) | fail)
      (refine retC_mk ([(4, lsV F), (5, .bool true)]) ([]) 0 (Sim.less [] (by rfl) R_ R_) (retQ_ok (by rfl) ([]) (fun i av h => h) ⟨?_, ?_⟩)) <;> rfl
    · rw [if_neg hl] at c2 hG
      obtain ⟨d1, d2, d3⟩ := chp_ok (m := 1) (by omega) hn hF hc hl
      generalize chp 1 n l F = F2 at *
      replace c2 : Ok Try.prog 41 [] [] (.pair (.int .i64 (n : Nat)) (.pair (edV l) (.pair (liV F) .nul))) (fun r h' => r = .tup (.pair (lsV F2) (.pair (.bool true) .nul)) ∧ h' = []) := c2
      repeat' (first | (refine SS_ ?_) | (refine Seq.callp false (c2) Try.func41 GOk.nil subG.nil (by rfl) (by rfl) rfl rfl rfl rfl rfl (by rfl) rfl VW_ NI_ NI_ FR_ ?_) | (refine VC.litF (by rfl) LFA_ ?_) | fail)
      refine ⟨(q, F2), ⟨d1, d2, by show cost l F2 + (l.length : Int) * 1000000 < (q : Int); omega, hG⟩, by show q < q + 1; omega, ?_⟩
      exact (Sim.less [] (by rfl) R_ R_)
  · rw [h2] at c1 ⊢
    show Ok _ _ _ _ _ (fun r h' => r = .tup (.pair (lsV []) (.pair (.bool false) .nul)) ∧ h' = [])
    replace c1 : Ok Try.prog 25 [] [] (.pair (.int .i64 (n : Nat)) (.pair (edV l) .nul)) (fun r h' => r = .tup (.pair (lsV []) (.pair (.bool false) .nul)) ∧ h' = []) := c1
    refine Ok.still (R := fun r h' => r = .tup (.pair (.val (.slice none 0 0)) (.pair (.bool false) .nul)) ∧ h' = []) ?_ ?_
    · refine Ok.of_vcC tt_ok Try.func28 rfl rfl (by show 2 ≤ _; decide) 0 (hlt_ok (by rfl)) fun c0 => ?_
      repeat' (first | (refine SS_ ?_) | (refine Seq.callp false (c1) Try.func25 GOk.nil subG.nil (by rfl) (by rfl) rfl rfl rfl rfl rfl (by rfl) rfl VW_ NI_ NI_ FR_ ?_) | (refine VC.litT (by rfl) LTR_ ?_) | fail)
      (refine retC_mk ([(4, .val (.slice none 0 0)), (5, .bool false)]) ([]) 0 (Sim.less [] (by rfl) R_ R_) (retQ_ok (by rfl) ([]) (fun i av h => h) ⟨?_, ?_⟩)) <;> rfl
    · rintro r h' ⟨rfl, rfl⟩
      exact ⟨_, .tup (.pair .nil (.pair (.rel (NoId.self (a := .bool false) NI_)) (.rel (NoId.self (a := .nul) NI_)))), rfl, rfl⟩
end Go.Proofs.Ytkpidpmlehkjbaa

namespace Go.Fl
theorem cost_step' {l : List Ed} {F : List Int} (hl : F.length = l.length) {k : Nat} (hk : k < l.length) : cost (l.take (k + 1)) (F.take (k + 1)) = cost (l.take k) (F.take k) + F.getD k 0 * (l.getD k edZ).c := by
  rw [Go.Lx.take_snoc (d := edZ) hk, Go.Lx.take_snoc (d := (0 : Int)) (show k < F.length by omega), cost_app (by rw [List.length_take, List.length_take]; omega)]
  simp [cost]
/-- Costs and flows that do not go beyond the machine's numbers. -/
def CBd (l : List Ed) (F : List Int) : Prop := F.length = l.length ∧ l.length ≤ 1000 ∧ ∀ k, k < l.length → -100000 ≤ F.getD k 0 ∧ F.getD k 0 ≤ 100000 ∧ -100000 ≤ (l.getD k edZ).c ∧ (l.getD k edZ).c ≤ 100000
theorem CBd.mul {l : List Ed} {F : List Int} (h : CBd l F) {k : Nat} (hk : k < l.length) : -10000000000 ≤ F.getD k 0 * (l.getD k edZ).c ∧ F.getD k 0 * (l.getD k edZ).c ≤ 10000000000 := by
  obtain ⟨h1, h2, h3, h4⟩ := h.2.2 k hk
  generalize F.getD k 0 = a at *
  generalize (l.getD k edZ).c = b at *
  have e1 : (a + 100000) * (100000 - b) ≥ 0 := Int.mul_nonneg (by omega) (by omega)
  have e2 : (a + 100000) * (b + 100000) ≥ 0 := Int.mul_nonneg (by omega) (by omega)
  have e3 : (100000 - a) * (b + 100000) ≥ 0 := Int.mul_nonneg (by omega) (by omega)
  have e4 : (100000 - a) * (100000 - b) ≥ 0 := Int.mul_nonneg (by omega) (by omega)
  rw [Int.add_mul, Int.mul_sub, Int.mul_sub] at e1
  rw [Int.add_mul, Int.mul_add, Int.mul_add] at e2
  rw [Int.sub_mul, Int.mul_add, Int.mul_add] at e3
  rw [Int.sub_mul, Int.mul_sub, Int.mul_sub] at e4
  omega
theorem CBd.part {l : List Ed} {F : List Int} (h : CBd l F) : ∀ k : Nat, k ≤ l.length → -(10000000000 * (k : Int)) ≤ cost (l.take k) (F.take k) ∧ cost (l.take k) (F.take k) ≤ 10000000000 * (k : Int)
  | 0, _ => by simp [cost]
  | k + 1, hk => by
    have ih := h.part k (by omega)
    have := h.mul (k := k) (by omega)
    rw [cost_step' h.1 (by omega)]
    omega
theorem NetOk.cbd {n : Nat} {l : List Ed} (ok : NetOk n l) {F : List Int} (hF : inB l F) : CBd l F := ⟨(inB_iff.1 hF).1, by have := ok.l256; omega, fun k hk => by
  have := ok.flow hF k hk
  have := ok.get hk
  omega⟩
end Go.Fl
namespace Go.Proofs.Ytkpidpmlehkjbaa
open Go.V Go.RowKit Go.L Go.Lx Go.Fl
set_option maxRecDepth 10000
set_option maxHeartbeats 4000000
theorem cost_ok {l : List Ed} {F : List Int} (h : CBd l F) : Ok Try.prog 24 [] [] (.pair (edV l) (.pair (liV F) .nul)) (fun r h' => r = .int .i64 (cost l F) ∧ h' = []) := by
  have h1 := h.1
  have h2 := h.2.1
  refine Ok.of_vcC tt_ok Try.func24 rfl rfl (by show 2 ≤ _; decide) 0 (hlt_ok (by rfl)) fun c0 => ?_
  repeat' (first | (refine SS_ ?_) | fail)
  refine VC.loop (fun k : Nat => ⟨[(6, .int .i64 (k : Nat)), (5, .int .i64 (cost (l.take k) (F.take k))), (1, liV F), (0, edV l)], [], [], 0⟩) (fun k => k ≤ l.length) (fun k => l.length - k) 0 (by omega) (by
    show ∀ a w, _ → Sim _ ⟨[(6, .int .i64 ((0 : Nat) : Int)), (5, .int .i64 0), (1, liV F), (0, edV l)], [], [], 0⟩ a w
    exact (Sim.less [] (by rfl) R_ R_)) fun k hk => ?_
  have hp := h.part k hk
  by_cases hkl : k < l.length
  · have hst := cost_step' h1 hkl
    have hm := h.mul hkl
    have hkk : ((k : Nat) : Int).toNat = k := Int.toNat_natCast k
    rw [← hkk] at hm
    generalize hc : cost (l.take k) (F.take k) = c at *
    repeat' (first | (refine SS_ ?_) | (refine VC.drawm (id := 5) [(0, 0), (1, 0), (2, 0), (3, 6), (4, 14), (5, 0), (6, 0), (7, 96), (8, 224), (9, 480), (10, 1022), (11, 2047)] [12] (by rfl) (by kernel_rfl) (by rfl) ?_) | (refine VC.litT (by rfl) LTR_ ?_) | (refine DD_ ?_) | fail)
    refine ⟨k + 1, by omega, by omega, ?_⟩
    show ∀ a w, _ → Sim _ ⟨[(6, .int .i64 ((k + 1 : Nat) : Int)), (5, .int .i64 (cost (l.take (k + 1)) (F.take (k + 1)))), (1, liV F), (0, edV l)], [], [], 0⟩ a w
    rw [hst, show F.getD k 0 * (l.getD k edZ).c = F.getD ((k : Nat) : Int).toNat 0 * (l.getD ((k : Nat) : Int).toNat edZ).c by rw [hkk]]
    exact (Sim.less [] (by rfl) R_ R_)
  · obtain rfl : k = l.length := by omega
    rw [List.take_of_length_le (Nat.le_refl _), List.take_of_length_le (by omega)]
    repeat' (first | (refine SS_ ?_) | (refine VC.litF (by rfl) LFA_ ?_) | fail)
    (refine retC_mk ([(4, .int .i64 (cost l F))]) ([]) 0 (Sim.less [] (by rfl) R_ R_) (retQ_ok (by rfl) ([]) (fun i av h => h) ⟨?_, ?_⟩)) <;> rfl
theorem has_ok (l : List Int) (hl : l.length ≤ 9223372036854775806) (x : Int) : Ok Try.prog 39 [] [] (.pair (liV l) (.pair (.int .i64 x) .nul)) (fun r h' => r = .bool (decide (x ∈ l)) ∧ h' = []) := by
  refine Ok.of_vcC tt_ok Try.func39 rfl rfl (by show 2 ≤ _; decide) 0 (hlt_ok (by rfl)) fun c0 => ?_
  repeat' (first | (refine SS_ ?_) | fail)
  refine VC.loop (fun k : Nat => ⟨[(5, .int .i64 (k : Nat)), (1, .int .i64 x), (0, liV l)], [], [], 0⟩) (fun k => k ≤ l.length ∧ ∀ j, j < k → l.getD j 0 ≠ x) (fun k => l.length - k) 0 ⟨by omega, fun j hj => absurd hj (Nat.not_lt_zero _)⟩ (Sim.less [] (by rfl) R_ R_) fun k hk => ?_
  obtain ⟨hk, hall⟩ := hk
  by_cases hkl : k < l.length
  · have hkk : ((k : Nat) : Int).toNat = k := Int.toNat_natCast k
    by_cases hx : l.getD ((k : Nat) : Int).toNat 0 = x
    · rw [decide_eq_true ((mem_getD (d := 0)).2 ⟨k, hkl, by rw [← hkk]; exact hx⟩)]
      repeat' (first | (refine SS_ ?_) | (refine VC.litT (by rfl) LTR_ ?_) | fail)
      (refine retC_mk ([(4, .bool true)]) ([]) 0 (Sim.less [] (by rfl) R_ R_) (retQ_ok (by rfl) ([]) (fun i av h => h) ⟨?_, ?_⟩)) <;> rfl
    · repeat' (first | (refine SS_ ?_) | (refine VC.litT (by rfl) LTR_ ?_) | (refine VC.litF (by rfl) LFA_ ?_) | fail)
      refine ⟨k + 1, ⟨by omega, fun j hj => ?_⟩, by omega, by exact (Sim.less [] (by rfl) R_ R_)⟩
      by_cases e : j = k
      · subst e; rw [← hkk]; exact hx
      · exact hall j (by omega)
  · rw [decide_eq_false fun hm => ?_]
    · repeat' (first | (refine SS_ ?_) | (refine VC.litF (by rfl) LFA_ ?_) | fail)
      (refine retC_mk ([(4, .bool false)]) ([]) 0 (Sim.less [] (by rfl) R_ R_) (retQ_ok (by rfl) ([]) (fun i av h => h) ⟨?_, ?_⟩)) <;> rfl
    · obtain ⟨j, hj, e⟩ := (mem_getD (d := 0)).1 hm
      exact hall j (by omega) e
/-- A certificate as a value. -/
abbrev ceV (F L : List Int) : AV := .pair (liV F) (.pair (liV L) .nul)
theorem plain_ok (F L : List Int) : Ok Try.prog 20 [] [] (.pair (ceV F L) .nul) (fun r h' => r = ceV F L ∧ h' = []) := by
  refine Ok.of_vcC tt_ok Try.func20 rfl rfl (by show 1 ≤ _; decide) 0 (hlt_ok (by rfl)) fun c0 => ?_
  repeat' (first | (refine SS_ ?_) | fail)
  exact retC_mk [(2, .ptr 1 [])] [(1, ceV F L)] 2 (Sim.less [] (by rfl) R_ R_) (retQ_ok (by rfl) [] nil_sub ⟨rfl, rfl⟩)
theorem own_walk (l : List Ed) (hl : l.length ≤ 1048576) : Ok Try.prog 15 [] [] (.pair (edV l) .nul) (fun r h' => r = .sl 0 [] 5 0 l.length ∧ h' = [(0, .arr l.length 5 (fun i => edA (l.getD i edZ)))]) := by
  refine Ok.of_vcC tt_ok Try.func15 rfl rfl (by show 1 ≤ _; decide) 0 (hlt_ok (by rfl)) fun c0 => ?_
  repeat' (first | (refine SS_ ?_) | fail)
  refine VC.conv (Sim.ghost 3 5 (fun i => edA (([] : List Ed).getD i edZ)) (by rfl) (.inl rfl)) ?_
  refine VC.loop (fun k : Nat => ⟨[(4, .int .i64 (k : Nat)), (3, .sl 0 [] 5 0 (l.take k).length), (0, edV l)], [(0, .arr (l.take k).length 5 (fun i => edA ((l.take k).getD i edZ)))], [], 1⟩) (fun k => k ≤ l.length) (fun k => l.length - k) 0 (by omega) (by
    (refine Sim.less [] (by rfl) ?_ ?_ <;> (repeat' (first | (exact EnvLe.nil) | (exact HeapLe.nil) | (with_reducible apply EnvLe.cons) | (with_reducible apply HeapLe.cons) | ((with_reducible refine RelA.int ?_; first | (refine Keep.mk ?_; first | with_reducible rfl | omega | decide) | skip)) | (exact rfl) | (exact ⟨rfl, rfl⟩) | ((with_reducible refine RelA.rsl ?_; intro i hi)) | (with_reducible refine RelA.pair ?_ ?_) | ((refine RelA.arr ?_; intro i hi)) | fail)) <;> (try with_reducible refine Keep.mk ?_))
    all_goals rfl) fun k hk => ?_
  have htl : (l.take k).length = k := by rw [List.length_take]; omega
  by_cases hkl : k < l.length
  · have hst := take_snoc (d := edZ) hkl
    have hkk : ((k : Nat) : Int).toNat = k := Int.toNat_natCast k
    generalize hT : l.take (k + 1) = T2 at *
    generalize l.take k = T at *
    repeat' (first | (refine SS_ ?_) | (refine VC.drawm (id := 5) [(0, 0), (1, 0), (2, 0), (3, 6), (4, 14), (5, 30), (6, 0), (7, 0), (8, 192), (9, 448), (10, 960), (11, 0), (12, 0), (13, 6144), (14, 14336), (15, 30720), (16, 0), (17, 0), (18, 196608), (19, 458752), (20, 983040), (21, 0), (22, 0), (23, 6291456), (24, 14680064), (25, 31457280), (26, 67108862), (27, 134217726)] [28, 29] (by rfl) (by kernel_rfl) (by rfl) ?_) | (refine VC.litT (by rfl) LTR_ ?_) | (refine DD_ ?_) | fail)
    refine ⟨k + 1, by omega, by omega, ?_⟩
    show ∀ a w, _ → Sim _ ⟨[(4, .int .i64 ((k + 1 : Nat) : Int)), (3, .sl 0 [] 5 0 (l.take (k + 1)).length), (0, edV l)], [(0, .arr (l.take (k + 1)).length 5 (fun i => edA ((l.take (k + 1)).getD i edZ)))], [], 1⟩ a w
    rw [hT, hst, List.length_append, List.length_singleton]
    (refine Sim.less [(0, 2)] (by rfl) ?_ ?_ <;> (repeat' (first | (exact EnvLe.nil) | (exact HeapLe.nil) | (with_reducible apply EnvLe.cons) | (with_reducible apply HeapLe.cons) | ((with_reducible refine RelA.int ?_; first | (refine Keep.mk ?_; first | with_reducible rfl | omega | decide) | skip)) | (exact rfl) | (exact ⟨rfl, rfl⟩) | ((with_reducible refine RelA.rsl ?_; intro i hi)) | (with_reducible refine RelA.pair ?_ ?_) | ((refine RelA.arr ?_; intro i hi)) | fail)) <;> (try with_reducible refine Keep.mk ?_))
    rw [← hkk]
    exact rel_snocG (G := edA) (fun e => NI_) (by assumption) (by rfl)
  · obtain rfl : k = l.length := by omega
    rw [List.take_of_length_le (Nat.le_refl _)]
    repeat' (first | (refine SS_ ?_) | (refine VC.litF (by rfl) LFA_ ?_) | fail)
    (refine retC_mk ([(2, .sl 0 [] 5 0 l.length)]) ([(0, .arr l.length 5 (fun i => edA (l.getD i edZ)))]) 1 (Sim.less [] (by rfl) R_ R_) (retQ_ok (by rfl) ([(0, .arr l.length 5 (fun i => edA (l.getD i edZ)))]) (fun i av h => h) ⟨?_, ?_⟩)) <;> rfl
/-- Edges that a function has made. -/
abbrev edT (l : List Ed) : AV := .rsl true l.length 5 (fun i => edA (l.getD i edZ))
theorem own_ok (l : List Ed) (hl : l.length ≤ 1048576) : Ok Try.prog 15 [] [] (.pair (edV l) .nul) (fun r h' => r = edT l ∧ h' = []) := by
  refine Ok.still (own_walk l hl) ?_
  rintro r h' ⟨rfl, rfl⟩
  exact ⟨_, ViewT.sl (by rfl) rfl trivial (by omega) rfl fun i hi => .rel (by rw [Nat.zero_add]; exact NoId.self NI_), rfl, rfl⟩
end Go.Proofs.Ytkpidpmlehkjbaa
