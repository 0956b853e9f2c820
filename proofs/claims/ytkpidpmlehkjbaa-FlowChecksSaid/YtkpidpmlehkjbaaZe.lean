/- Flow: the law's small functions. -/
import Derived.Test.YtkpidpmlehkjbaaZd
set_option linter.unusedSimpArgs false
set_option linter.unusedVariables false
namespace Go.Fl
theorem cost_step' {l : List Ed} {F : List Int} (hl : F.length = l.length) {k : Nat} (hk : k < l.length) : cost (l.take (k + 1)) (F.take (k + 1)) = cost (l.take k) (F.take k) + F.getD k 0 * (l.getD k edZ).c := by
  rw [Go.Lx.take_snoc (d := edZ) hk, Go.Lx.take_snoc (d := (0 : Int)) (show k < F.length by omega), cost_app (by rw [List.length_take, List.length_take]; omega)]
  simp [cost]
/-- Costs and flows that do not go beyond the machine's numbers. -/
def CBd (l : List Ed) (F : List Int) : Prop := F.length = l.length ∧ l.length ≤ 1000 ∧ ∀ k, k < l.length → -100000 ≤ F.getD k 0 ∧ F.getD k 0 ≤ 100000 ∧ -100000 ≤ (l.getD k edZ).c ∧ (l.getD k edZ).c ≤ 100000
theorem CBd.mul {l : List Ed} {F : List Int} (h : CBd l F) {k : Nat} (hk : k < l.length) : -10000000000 ≤ F.getD k 0 * (l.getD k edZ).c ∧ F.getD k 0 * (l.getD k edZ).c ≤ 10000000000 := by
  obtain ⟨h1, h2, h3, h4⟩ := h.2.2 k hk
  generalize F.getD k 0 = a at *
  generalize (l.getD k edZ).c = b at *
  have e1 : (a + 100000) * (100000 - b) ≥ 0 := Int.mul_nonneg (by omega) (by omega)
  have e2 : (a + 100000) * (b + 100000) ≥ 0 := Int.mul_nonneg (by omega) (by omega)
  have e3 : (100000 - a) * (b + 100000) ≥ 0 := Int.mul_nonneg (by omega) (by omega)
  have e4 : (100000 - a) * (100000 - b) ≥ 0 := Int.mul_nonneg (by omega) (by omega)
  rw [Int.add_mul, Int.mul_sub, Int.mul_sub] at e1
  rw [Int.add_mul, Int.mul_add, Int.mul_add] at e2
  rw [Int.sub_mul, Int.mul_add, Int.mul_add] at e3
  rw [Int.sub_mul, Int.mul_sub, Int.mul_sub] at e4
  omega
theorem CBd.part {l : List Ed} {F : List Int} (h : CBd l F) : ∀ k : Nat, k ≤ l.length → -(10000000000 * (k : Int)) ≤ cost (l.take k) (F.take k) ∧ cost (l.take k) (F.take k) ≤ 10000000000 * (k : Int)
  | 0, _ => by simp [cost]
  | k + 1, hk => by
    have ih := h.part k (by omega)
    have := h.mul (k := k) (by omega)
    rw [cost_step' h.1 (by omega)]
    omega
end Go.Fl
namespace Go.Proofs.Ytkpidpmlehkjbaa
open Go.V Go.RowKit Go.L Go.Lx Go.Fl
set_option maxRecDepth 10000
set_option maxHeartbeats 4000000
theorem has_ok (l : List Int) (hl : l.length ≤ 9223372036854775806) (x : Int) : Ok Try.prog 39 [] [] (.pair (liV l) (.pair (.int .i64 x) .nul)) (fun r h' => r = .bool (decide (x ∈ l)) ∧ h' = []) := by
  refine Ok.of_vcC tt_ok Try.func39 rfl rfl (by show 2 ≤ _; decide) 0 (hlt_ok (by rfl)) fun c0 => ?_
  repeat' (first | (refine SS_ ?_) | fail)
  refine VC.loop (fun k : Nat => ⟨[(5, .int .i64 (k : Nat)), (1, .int .i64 x), (0, liV l)], [], [], 0⟩) (fun k => k ≤ l.length ∧ ∀ j, j < k → l.getD j 0 ≠ x) (fun k => l.length - k) 0 ⟨by omega, fun j hj => absurd hj (Nat.not_lt_zero _)⟩ (Sim.less [] (by rfl) R_ R_) fun k hk => ?_
  obtain ⟨hk, hall⟩ := hk
  by_cases hkl : k < l.length
  · have hkk : ((k : Nat) : Int).toNat = k := Int.toNat_natCast k
    by_cases hx : l.getD ((k : Nat) : Int).toNat 0 = x
    · rw [decide_eq_true ((mem_getD (d := 0)).2 ⟨k, hkl, by rw [← hkk]; exact hx⟩)]
      repeat' (first | (refine SS_ ?_) | (refine VC.litT (by rfl) LTR_ ?_) | fail)
      (refine retC_mk ([(4, .bool true)]) ([]) 0 (Sim.less [] (by rfl) R_ R_) (retQ_ok (by rfl) ([]) (fun i av h => h) ⟨?_, ?_⟩)) <;> rfl
    · repeat' (first | (refine SS_ ?_) | (refine VC.litT (by rfl) LTR_ ?_) | (refine VC.litF (by rfl) LFA_ ?_) | fail)
      refine ⟨k + 1, ⟨by omega, fun j hj => ?_⟩, by omega, by exact (Sim.less [] (by rfl) R_ R_)⟩
      by_cases e : j = k
      · subst e; rw [← hkk]; exact hx
      · exact hall j (by omega)
  · rw [decide_eq_false fun hm => ?_]
    · repeat' (first | (refine SS_ ?_) | (refine VC.litF (by rfl) LFA_ ?_) | fail)
      (refine retC_mk ([(4, .bool false)]) ([]) 0 (Sim.less [] (by rfl) R_ R_) (retQ_ok (by rfl) ([]) (fun i av h => h) ⟨?_, ?_⟩)) <;> rfl
    · obtain ⟨j, hj, e⟩ := (mem_getD (d := 0)).1 hm
      exact hall j (by omega) e
/-- A certificate as a value. -/
abbrev ceV (F L : List Int) : AV := .pair (liV F) (.pair (liV L) .nul)
theorem plain_ok (F L : List Int) : Ok Try.prog 20 [] [] (.pair (ceV F L) .nul) (fun r h' => r = ceV F L ∧ h' = []) := by
  refine Ok.of_vcC tt_ok Try.func20 rfl rfl (by show 1 ≤ _; decide) 0 (hlt_ok (by rfl)) fun c0 => ?_
  repeat' (first | (refine SS_ ?_) | fail)
  exact retC_mk [(2, .ptr 1 [])] [(1, ceV F L)] 2 (Sim.less [] (by rfl) R_ R_) (retQ_ok (by rfl) [] nil_sub ⟨rfl, rfl⟩)
theorem own_walk (l : List Ed) (hl : l.length ≤ 1048576) : Ok Try.prog 15 [] [] (.pair (edV l) .nul) (fun r h' => r = .sl 0 [] 5 0 l.length ∧ h' = [(0, .arr l.length 5 (fun i => edA (l.getD i edZ)))]) := by
  refine Ok.of_vcC tt_ok Try.func15 rfl rfl (by show 1 ≤ _; decide) 0 (hlt_ok (by rfl)) fun c0 => ?_
  repeat' (first | (refine SS_ ?_) | fail)
  refine VC.conv (Sim.ghost 3 5 (fun i => edA (([] : List Ed).getD i edZ)) (by rfl) (.inl rfl)) ?_
  refine VC.loop (fun k : Nat => ⟨[(4, .int .i64 (k : Nat)), (3, .sl 0 [] 5 0 (l.take k).length), (0, edV l)], [(0, .arr (l.take k).length 5 (fun i => edA ((l.take k).getD i edZ)))], [], 1⟩) (fun k => k ≤ l.length) (fun k => l.length - k) 0 (by omega) (by
    (refine Sim.less [] (by rfl) ?_ ?_ <;> (repeat' (first | (exact EnvLe.nil) | (exact HeapLe.nil) | (with_reducible apply EnvLe.cons) | (with_reducible apply HeapLe.cons) | ((with_reducible refine RelA.int ?_; first | (refine Keep.mk ?_; first | with_reducible rfl | omega | decide) | skip)) | (exact rfl) | (exact ⟨rfl, rfl⟩) | ((with_reducible refine RelA.rsl ?_; intro i hi)) | (with_reducible refine RelA.pair ?_ ?_) | ((refine RelA.arr ?_; intro i hi)) | fail)) <;> (try with_reducible refine Keep.mk ?_))
    all_goals rfl) fun k hk => ?_
  have htl : (l.take k).length = k := by rw [List.length_take]; omega
  by_cases hkl : k < l.length
  · have hst := take_snoc (d := edZ) hkl
    have hkk : ((k : Nat) : Int).toNat = k := Int.toNat_natCast k
    generalize hT : l.take (k + 1) = T2 at *
    generalize l.take k = T at *
    repeat' (first | (refine SS_ ?_) | (refine VC.drawm (id := 5) [(0, 0), (1, 0), (2, 0), (3, 6), (4, 14), (5, 30), (6, 0), (7, 0), (8, 192), (9, 448), (10, 960), (11, 0), (12, 0), (13, 6144), (14, 14336), (15, 30720), (16, 0), (17, 0), (18, 196608), (19, 458752), (20, 983040), (21, 0), (22, 0), (23, 6291456), (24, 14680064), (25, 31457280), (26, 67108862), (27, 134217726)] [28, 29] (by rfl) (by kernel_rfl) (by rfl) ?_) | (refine VC.litT (by rfl) LTR_ ?_) | (refine DD_ ?_) | fail)
    refine ⟨k + 1, by omega, by omega, ?_⟩
    show ∀ a w, _ → Sim _ ⟨[(4, .int .i64 ((k + 1 : Nat) : Int)), (3, .sl 0 [] 5 0 (l.take (k + 1)).length), (0, edV l)], [(0, .arr (l.take (k + 1)).length 5 (fun i => edA ((l.take (k + 1)).getD i edZ)))], [], 1⟩ a w
    rw [hT, hst, List.length_append, List.length_singleton]
    (refine Sim.less [(0, 2)] (by rfl) ?_ ?_ <;> (repeat' (first | (exact EnvLe.nil) | (exact HeapLe.nil) | (with_reducible apply EnvLe.cons) | (with_reducible apply HeapLe.cons) | ((with_reducible refine RelA.int ?_; first | (refine Keep.mk ?_; first | with_reducible rfl | omega | decide) | skip)) | (exact rfl) | (exact ⟨rfl, rfl⟩) | ((with_reducible refine RelA.rsl ?_; intro i hi)) | (with_reducible refine RelA.pair ?_ ?_) | ((refine RelA.arr ?_; intro i hi)) | fail)) <;> (try with_reducible refine Keep.mk ?_))
    rw [← hkk]
    exact rel_snocG (G := edA) (fun e => NI_) (by assumption) (by rfl)
  · obtain rfl : k = l.length := by omega
    rw [List.take_of_length_le (Nat.le_refl _)]
    repeat' (first | (refine SS_ ?_) | (refine VC.litF (by rfl) LFA_ ?_) | fail)
    (refine retC_mk ([(2, .sl 0 [] 5 0 l.length)]) ([(0, .arr l.length 5 (fun i => edA (l.getD i edZ)))]) 1 (Sim.less [] (by rfl) R_ R_) (retQ_ok (by rfl) ([(0, .arr l.length 5 (fun i => edA (l.getD i edZ)))]) (fun i av h => h) ⟨?_, ?_⟩)) <;> rfl
/-- Edges that a function has made. -/
abbrev edT (l : List Ed) : AV := .rsl true l.length 5 (fun i => edA (l.getD i edZ))
theorem own_ok (l : List Ed) (hl : l.length ≤ 1048576) : Ok Try.prog 15 [] [] (.pair (edV l) .nul) (fun r h' => r = edT l ∧ h' = []) := by
  refine Ok.still (own_walk l hl) ?_
  rintro r h' ⟨rfl, rfl⟩
  exact ⟨_, ViewT.sl (by rfl) rfl trivial (by omega) rfl fun i hi => .rel (by rw [Nat.zero_add]; exact NoId.self NI_), rfl, rfl⟩
theorem take_walk (l : List Int) (hl : l.length ≤ 9223372036854775807) (m n : Nat) (hm : m ≤ 1048576) (hn : min l.length m = n) : Ok Try.prog 16 [] [] (.pair (liV l) (.pair (.int .i64 m) .nul)) (fun r h' => r = .sl 0 [] 1 0 n ∧ h' = [(0, .arr n 1 (fun i => .int .i64 (l.getD i 0)))]) := by
  have hmin : min (l.length : Int) (m : Int) = (n : Int) := by omega
  refine Ok.of_vcC tt_ok Try.func16 rfl rfl (by show 2 ≤ _; decide) 0 (hlt_ok (by rfl)) fun c0 => ?_
  repeat' (first | (refine Seq.val (v := .int .i64 (n : Int)) (hmin ▸ min_ok (k := .i64) (by rfl) (by rfl)) (by rfl) (by rfl) ?_) | (first | with_reducible refine VC.seq ?_ | with_reducible refine VC.block ?_ | with_reducible refine VC.region ?_ | with_reducible refine VC.exit ?_ | with_reducible refine VC.ret ?_ | with_reducible refine VC.skip ?_ | with_reducible refine Seq.nil ?_ | with_reducible refine thenQ_n ?_ | with_reducible refine thenQ_r ?_ | with_reducible refine thenQ_e ?_ | with_reducible refine inQ_n ?_ | with_reducible refine inQ_r ?_ | with_reducible refine inQ_e ?_ | ((with_reducible refine inQ_o ?_ ?_); rfl) | (refine Seq.ev0 true tt_ok (by rfl) (by (first | exact trivial | exact u8_in _ rfl | exact u32_in _ rfl | ((with_reducible refine AllP.guard ?_); simp only [AllP, inI, fitV, maxK, inK, inbL, inb, List.append, List.cons_append, List.nil_append, true_and, and_true]; first | done | omega))) rfl rfl rfl ?_) | (refine Seq.ev true tt_ok (by rfl) (by (first | exact trivial | exact u8_in _ rfl | exact u32_in _ rfl | ((with_reducible refine AllP.guard ?_); simp only [AllP, inI, fitV, maxK, inK, inbL, inb, List.append, List.cons_append, List.nil_append, true_and, and_true]; first | done | omega))) rfl rfl rfl ?_) | (refine Seq.evn true tt_ok (by rfl) (by (first | exact trivial | exact u8_in _ rfl | exact u32_in _ rfl | ((with_reducible refine AllP.guard ?_); simp only [AllP, inI, fitV, maxK, inK, inbL, inb, List.append, List.cons_append, List.nil_append, true_and, and_true]; first | done | omega))) rfl ?_) | (refine Seq.pass (by rfl) rfl ?_)) | fail)
  simp only [Int.toNat_natCast, Nat.sub_zero, Nat.zero_add]
  (refine retC_mk ([(4, .sl 0 [] 1 0 n)]) ([(0, .arr n 1 (fun i => .int .i64 (l.getD i 0)))]) 1 (Sim.less [] (by rfl) R_ R_) (retQ_ok (by rfl) ([(0, .arr n 1 (fun i => .int .i64 (l.getD i 0)))]) (fun i av h => h) ⟨?_, ?_⟩)) <;> rfl
theorem take_ok (l : List Int) (hl : l.length ≤ 9223372036854775807) (m : Nat) (hm : m ≤ 1048576) : Ok Try.prog 16 [] [] (.pair (liV l) (.pair (.int .i64 m) .nul)) (fun r h' => r = lsV (l.take m) ∧ h' = []) := by
  refine Ok.still (take_walk l hl m (min l.length m) hm rfl) ?_
  rintro r h' ⟨rfl, rfl⟩
  refine ⟨_, viewT_li (by rfl) (by rw [List.length_take]; omega) fun i hi => ?_, rfl, rfl⟩
  rw [List.getD_eq_getElem?_getD, List.getD_eq_getElem?_getD, List.getElem?_take, if_pos (by omega)]
end Go.Proofs.Ytkpidpmlehkjbaa
