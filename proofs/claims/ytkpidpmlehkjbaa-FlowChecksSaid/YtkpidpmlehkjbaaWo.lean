/- Flow: the network as memory; how much an arc can take; pushes along arcs. -/
import Derived.Test.YtkpidpmlehkjbaaFr
import Derived.Test.YtkpidpmlehkjbaaWn
set_option linter.unusedSimpArgs false
set_option linter.unusedVariables false
namespace Go.Fl
structure NetOk (n : Nat) (l : List Ed) : Prop where
  n64 : n ≤ 64
  l256 : l.length ≤ 257
  ed : ∀ e ∈ l, 0 ≤ e.a ∧ e.a < n ∧ 0 ≤ e.b ∧ e.b < n ∧ 0 ≤ e.lo ∧ e.lo ≤ e.hi ∧ e.hi ≤ 1000 ∧ -1000 ≤ e.c ∧ e.c ≤ 1000
theorem NetOk.nodes {n : Nat} {l : List Ed} (h : NetOk n l) : nodes n l := fun e he => by
  obtain ⟨h1, h2, h3, h4, _⟩ := h.ed e he
  exact ⟨h1, h2, h3, h4⟩
theorem NetOk.get {n : Nat} {l : List Ed} (h : NetOk n l) {k : Nat} (hk : k < l.length) : 0 ≤ (l.getD k edZ).a ∧ (l.getD k edZ).a < n ∧ 0 ≤ (l.getD k edZ).b ∧ (l.getD k edZ).b < n ∧ 0 ≤ (l.getD k edZ).lo ∧ (l.getD k edZ).lo ≤ (l.getD k edZ).hi ∧ (l.getD k edZ).hi ≤ 1000 ∧ -1000 ≤ (l.getD k edZ).c ∧ (l.getD k edZ).c ≤ 1000 := h.ed _ (getD_mem' hk)
theorem NetOk.arc {n : Nat} {l : List Ed} (h : NetOk n l) {F : List Int} (hF : inB l F) {x : Nat} (hx : x < 2 * l.length) : 0 ≤ aF l x ∧ aF l x < n ∧ 0 ≤ aT l x ∧ aT l x < n ∧ -1000 ≤ aC l x ∧ aC l x ≤ 1000 ∧ 0 ≤ aR l F x ∧ aR l F x ≤ 1000 := by
  have := h.get (k := x / 2) (by omega)
  have := (inB_iff.1 hF).2 (x / 2) (by omega)
  rw [aF, aT, aC, aR]
  split <;> omega
end Go.Fl
namespace Go.Proofs.Ytkpidpmlehkjbaa
open Go.V Go.RowKit Go.L Go.Lx Go.Fl
set_option maxRecDepth 10000
set_option maxHeartbeats 4000000
abbrev arcB (k : Nat) (f t c s : Int) : AV := .pair (.int .i64 (k : Nat)) (.pair (.int .i64 f) (.pair (.int .i64 t) (.pair (.int .i64 c) (.pair (.int .i64 s) .nul))))
abbrev arcA (l : List Ed) (x : Nat) : AV := arcB (x / 2) (aF l x) (aT l x) (aC l x) (aS x)
abbrev netA (n : Nat) (l : List Ed) : AV := .pair (.int .i64 n) (.pair (edV l) (.pair (.sl 1 [] 1 0 l.length) (.pair (.rsl false (2 * l.length) 5 (arcA l)) .nul)))
abbrev nH (n : Nat) (l : List Ed) (F : List Int) : Asc := [(0, netA n l), (1, liO F)]
theorem room1_ok {n : Nat} {l : List Ed} {F : List Int} (ok : NetOk n l) (hF : inB l F) (k : Nat) (f t c : Int) (hk : k < l.length) : Ok Try.prog 47 [] (nH n l F) (.pair (.ptr 0 []) (.pair (arcB k f t c 1) .nul)) (fun r h' => r = .int .i64 ((l.getD k edZ).hi - F.getD k 0) ∧ h' = nH n l F) := by
  have h1 := ok.get hk
  obtain ⟨hlen, h2⟩ := inB_iff.1 hF
  have h2 := h2 k hk
  have ek : ((k : Nat) : Int).toNat = k := Int.toNat_natCast k
  rw [← ek] at h1 h2
  have e0 : F.getD (0 + ((k : Nat) : Int).toNat) 0 = F.getD ((k : Nat) : Int).toNat 0 := by rw [Nat.zero_add]
  rw [show (l.getD k edZ).hi - F.getD k 0 = (l.getD ((k : Nat) : Int).toNat edZ).hi - F.getD (0 + ((k : Nat) : Int).toNat) 0 by rw [e0, ek]]
  refine Ok.of_vcC tt_ok Try.func47 rfl rfl (by show 2 ≤ _; decide) 2 (hlt_ok (by rfl)) fun c0 => ?_
  repeat' (first | (refine SS_ ?_) | (refine VC.drawm (id := 2) [(0, 0), (1, 1), (2, 3), (3, 7), (4, 0), (5, 16), (6, 63), (7, 127), (8, 255), (9, 0), (10, 512), (11, 1536), (12, 3584), (13, 0), (14, 8192), (15, 32256), (16, 65024), (17, 131071)] [18] (by rfl) (by kernel_rfl) (by rfl) ?_) | (refine VC.litT (by rfl) LTR_ ?_) | (refine DD_ ?_) | fail)
  (refine retC_mk ([(4, .int .i64 ((l.getD ((k : Nat) : Int).toNat edZ).hi - F.getD (0 + ((k : Nat) : Int).toNat) 0))]) (nH n l F) 3 (Sim.less [] (by rfl) R_ R_) (retQ_ok (by rfl) (nH n l F) (fun i av h => h) ⟨?_, ?_⟩)) <;> rfl
theorem room2_ok {n : Nat} {l : List Ed} {F : List Int} (ok : NetOk n l) (hF : inB l F) (k : Nat) (f t c : Int) (hk : k < l.length) : Ok Try.prog 47 [] (nH n l F) (.pair (.ptr 0 []) (.pair (arcB k f t c (-1)) .nul)) (fun r h' => r = .int .i64 (F.getD k 0 - (l.getD k edZ).lo) ∧ h' = nH n l F) := by
  have h1 := ok.get hk
  obtain ⟨hlen, h2⟩ := inB_iff.1 hF
  have h2 := h2 k hk
  have ek : ((k : Nat) : Int).toNat = k := Int.toNat_natCast k
  rw [← ek] at h1 h2
  have e0 : F.getD (0 + ((k : Nat) : Int).toNat) 0 = F.getD ((k : Nat) : Int).toNat 0 := by rw [Nat.zero_add]
  rw [show F.getD k 0 - (l.getD k edZ).lo = F.getD (0 + ((k : Nat) : Int).toNat) 0 - (l.getD ((k : Nat) : Int).toNat edZ).lo by rw [e0, ek]]
  refine Ok.of_vcC tt_ok Try.func47 rfl rfl (by show 2 ≤ _; decide) 2 (hlt_ok (by rfl)) fun c0 => ?_
  repeat' (first | (refine SS_ ?_) | (refine VC.drawm (id := 3) [(0, 0), (1, 1), (2, 3), (3, 7), (4, 0), (5, 16), (6, 63), (7, 127), (8, 0), (9, 256), (10, 768), (11, 1792), (12, 0), (13, 4096), (14, 16128), (15, 32512), (16, 65280), (17, 131071)] [18] (by rfl) (by kernel_rfl) (by rfl) ?_) | (refine VC.litF (by rfl) LFA_ ?_) | (refine DD_ ?_) | fail)
  (refine retC_mk ([(4, .int .i64 (F.getD (0 + ((k : Nat) : Int).toNat) 0 - (l.getD ((k : Nat) : Int).toNat edZ).lo))]) (nH n l F) 3 (Sim.less [] (by rfl) R_ R_) (retQ_ok (by rfl) (nH n l F) (fun i av h => h) ⟨?_, ?_⟩)) <;> rfl
theorem room_ok {n : Nat} {l : List Ed} {F : List Int} (ok : NetOk n l) (hF : inB l F) {x : Nat} (hx : x < 2 * l.length) : Ok Try.prog 47 [] (nH n l F) (.pair (.ptr 0 []) (.pair (arcA l x) .nul)) (fun r h' => r = .int .i64 (aR l F x) ∧ h' = nH n l F) := by
  have c1 := room1_ok ok hF (x / 2) (aF l x) (aT l x) (aC l x) (by omega)
  have c2 := room2_ok ok hF (x / 2) (aF l x) (aT l x) (aC l x) (by omega)
  unfold arcA
  by_cases h : x % 2 = 0
  · rw [show aS x = 1 from if_pos h, show aR l F x = _ from if_pos h]; exact c1
  · rw [show aS x = -1 from if_neg h, show aR l F x = _ from if_neg h]; exact c2
abbrev entO (l : List Ed) (E : List (Int × Nat)) : AV := moL (fun i : Int => .int .i64 i) (fun x => arcA l x) (0, 0) E
/-- What a push holds: the network, the entries, and the boxes of its variables. -/
abbrev pH (n : Nat) (l : List Ed) (F : List Int) (E : List (Int × Nat)) (z w m : Int) : Asc := [(0, netA n l), (1, liO F), (2, entO l E), (3, .ptr 0 []), (4, .mp 2), (5, .int .i64 z), (6, .int .i64 w), (7, .int .i64 m)]
abbrev p2F : AV := .fn (.func 49) .nul (.pair (.ptr 7 []) (.pair (.ptr 3 []) .nul))
abbrev p3F : AV := .fn (.func 50) .nul (.pair (.ptr 3 []) (.pair (.ptr 7 []) .nul))
theorem p2_ok {n : Nat} {l : List Ed} {F : List Int} (ok : NetOk n l) (hF : inB l F) {x : Nat} (hx : x < 2 * l.length) (E : List (Int × Nat)) (z w m : Int) : Ok Try.prog 49 [] (pH n l F E z w m) (.pair (arcA l x) (.pair (.ptr 7 []) (.pair (.ptr 3 []) .nul))) (fun r h' => r = .tup .nul ∧ h' = pH n l F E z w (min m (aR l F x))) := by
  have c1 := room_ok ok hF hx
  generalize aR l F x = r at *
  refine Ok.of_vcC tt_ok Try.func49 rfl rfl (by show 3 ≤ _; decide) 8 (hlt_ok (by rfl)) fun c0 => ?_
  repeat' (first | (refine SS_ ?_) | (refine VC.drawm (id := 1) [(0, 0), (1, 0), (2, 0), (3, 6), (4, 15)] [5] (by rfl) (by kernel_rfl) (by rfl) ?_) | (refine DSeq.callr false [] [] (.int .i64 r) ([]) (nH n l F) 9 (c1) Try.func47 GOk.nil subG.nil (by rfl) (fastE (by rfl)) (fastH (by rfl)) (by rfl) (by rfl) rfl rfl rfl rfl rfl (by rfl) (by rfl) (by rfl) (by rfl) (by rfl) (by repeat (first | exact trivial | refine ⟨rfl, ?_⟩)) (by rfl) (by rfl) (by rfl) VW_ NI_ R_ (noFrL_ok NI_) BK_ ?_) | (refine DSeq.val (by rfl) (fastE (by rfl)) (fastH (by rfl)) (min_ok (by rfl) (by rfl)) (by rfl) (by rfl) ?_) | (refine DD_ ?_) | fail)
  (refine retC_mk ([]) (pH n l F E z w (min m r)) 9 (Sim.less [] (by rfl) R_ R_) (retQ_ok (by rfl) (pH n l F E z w (min m r)) (fun i av h => h) ⟨?_, ?_⟩)) <;> rfl
theorem pu_eq {F : List Int} {m : Int} {x : Nat} : pu m F x = F.set (x / 2) (F.getD (0 + ((x / 2 : Nat) : Int).toNat) 0 + aS x * m) := by rw [pu, Int.toNat_natCast, Nat.zero_add]
theorem p3_ok {n : Nat} {l : List Ed} {F : List Int} (hl : F.length = l.length) {x : Nat} (hx : x < 2 * l.length) (E : List (Int × Nat)) (z w m : Int) (h1 : -1000 ≤ aS x * m ∧ aS x * m ≤ 1000) (h2 : -1000000 ≤ F.getD (0 + ((x / 2 : Nat) : Int).toNat) 0 ∧ F.getD (0 + ((x / 2 : Nat) : Int).toNat) 0 ≤ 1000000) :
    Ok Try.prog 50 [] (pH n l F E z w m) (.pair (arcA l x) (.pair (.ptr 3 []) (.pair (.ptr 7 []) .nul))) (fun r h' => r = .tup .nul ∧ h' = pH n l (pu m F x) E z w m) := by
  refine Ok.of_vcC tt_ok Try.func50 rfl rfl (by show 3 ≤ _; decide) 8 (hlt_ok (by rfl)) fun c0 => ?_
  repeat' (first | (refine SS_ ?_) | (refine VC.drawm (id := 1) [(0, 0), (1, 1), (2, 3), (3, 7), (4, 0), (5, 16), (6, 63), (7, 127), (8, 0), (9, 256), (10, 0), (11, 1792), (12, 4095), (13, 8191)] [14] (by rfl) (by kernel_rfl) (by rfl) ?_) | (refine DD_ ?_) | fail)
  refine retC_mk ([]) ([(0, netA n l), (1, .arr F.length 1 (fun i => .int .i64 ((F.set (x / 2) (F.getD (0 + ((x / 2 : Nat) : Int).toNat) 0 + aS x * m)).getD i 0))), (2, entO l E), (3, .ptr 0 []), (4, .mp 2), (5, .int .i64 z), (6, .int .i64 w), (7, .int .i64 m)]) 9 ?_ (retQ_ok (by rfl) ([(0, netA n l), (1, .arr F.length 1 (fun i => .int .i64 ((F.set (x / 2) (F.getD (0 + ((x / 2 : Nat) : Int).toNat) 0 + aS x * m)).getD i 0))), (2, entO l E), (3, .ptr 0 []), (4, .mp 2), (5, .int .i64 z), (6, .int .i64 w), (7, .int .i64 m)]) (fun i av h => h) ⟨?_, ?_⟩)
  · (refine Sim.less [] (by rfl) ?_ ?_ <;> (repeat' (first | (exact EnvLe.nil) | (exact HeapLe.nil) | (with_reducible apply HeapLe.cons) | ((with_reducible refine RelA.int ?_; first | (refine Keep.mk ?_; first | with_reducible rfl | omega | decide) | skip)) | (exact rfl) | (exact ⟨rfl, rfl⟩) | ((with_reducible refine RelA.rsl ?_; intro i hi)) | ((with_reducible refine RelA.arr ?_; intro i hi)) | (with_reducible refine RelA.pair ?_ ?_) | (exact NoId.self (by first | ((repeat' (first | exact trivial | exact rfl | refine NoFr.bif ?_ ?_ | refine NoId.bif ?_ ?_ | refine AllFr.bif ?_ ?_ | (intro i hi) | (refine ⟨?_, ?_⟩) | (intro e; cases e; done))); done) | fail)) | fail)) <;> (try with_reducible refine Keep.mk ?_))
    rw [Int.toNat_natCast] at *
    exact rel_setG (G := fun i : Int => .int .i64 i) (fun e => NI_) (by omega) rfl
  · rfl
  · show _ = [(0, netA n l), (1, .arr (pu m F x).length 1 (fun i => .int .i64 ((pu m F x).getD i 0))), (2, entO l E), (3, .ptr 0 []), (4, .mp 2), (5, .int .i64 z), (6, .int .i64 w), (7, .int .i64 m)]
    rw [pu_eq, List.length_set]
end Go.Proofs.Ytkpidpmlehkjbaa
