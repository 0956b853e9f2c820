
/- The reference's levels of a tree. -/
import Derived.Test.YthejnchhddggmaaDoorNk
import Derived.Test.YthejnchhddggmaaDoorOc
set_option linter.unusedSimpArgs false
set_option linter.unusedVariables false
namespace Go.Proofs.YthejnchhddggmaaDoor
open Go.V Go.RowKit Go.U Go.L Go.Lx Go.Sg
set_option maxRecDepth 10000
set_option maxHeartbeats 4000000
/-- A level of a tree, as a slice. -/
abbrev lvA (seed : List UInt8) (l n : Nat) : AV := .rsl false n 16 (fun k => digA (ndD seed l ((k : Nat) : Int)))
theorem view_lv {H : Asc} {bor D : Nat → Prop} {σ : Nat → Nat} {id l n m : Nat} {seed : List UInt8} (h : get? H id = some (.arr n 16 (fun j => digA (ndD seed l ((j : Nat) : Int))))) (hb : bor id) (hn : m = n) : View H bor D σ (lvA seed l m) (.sl id [] 16 0 n) := by
  subst hn
  exact View.sln h rfl trivial (by omega) hb rfl fun i hi => by rw [Nat.zero_add]; exact NoId.self (fun i hi => trivial)
theorem joinF_snocF {F : Nat → AV} {n i : Nat} {k : Nat → AV} (hi : i < n + 1) (hk : k 0 = F n) : joinF n F k i = F i := by
  by_cases h : i < n
  · rw [joinF_lt h]
  · obtain rfl : i = n := by omega
    rw [joinF_ge (Nat.le_refl _), Nat.sub_self, hk]
theorem rlevels_own (seed : List UInt8) (hs : seed.length ≤ 1000000) (h : Nat) (hh : h ≤ 6) : Ok Tryd.prog 24 gR [] (.pair (.str seed) (.pair (.int .i64 (h : Nat)) .nul)) (fun r h' => r = .sl 1 [] 1 0 (h + 1) ∧ h' = [(1, .arr (h + 1) 1 (fun j => lvA seed j (2 ^ (h - j))))]) := by
  have h64 : 2 ^ h ≤ 2 ^ 6 := Nat.pow_le_pow_right (by decide) hh
  have e64 : (2 : Nat) ^ 6 = 64 := by decide
  have hsh := shl_i64 (d := h) (by omega)
  have c1 := fun k hk => rleaf_ok seed hs k hk
  have hn0 : ∀ k, ndD seed 0 k = leafV (valN seed k) := fun k => rfl
  have hns : ∀ l k, ndD seed (l + 1) k = nodeD (ndD seed l (2 * k)) (ndD seed l (2 * k + 1)) := fun l k => rfl
  have hnl := ndD_length seed
  refine Ok.of_vcC tt_ok Tryd.func24 rfl rfl (by show 2 ≤ _; decide) 0 (hlt_ok (by rfl)) fun c0 => ?_
  repeat' (first | (refine SS_ ?_) | fail)
  refine VC.conv (Sim.ghost 5 16 (fun j => digA (ndD seed 0 ((j : Nat) : Int))) (by rfl) (.inl rfl)) ?_
  refine VC.loop (fun q : Nat => ⟨[(6, .int .i64 (q : Nat)), (5, .sl 0 [] 16 0 q), (1, .int .i64 (h : Nat)), (0, .str seed)], [(0, .arr q 16 (fun j => digA (ndD seed 0 ((j : Nat) : Int))))], gR, 1⟩) (fun q => q ≤ 2 ^ h) (fun q => 2 ^ h - q) 0 (Nat.zero_le _) (Sim.less [] (by rfl) R_ R_) fun q hq => ?_
  by_cases hqq : q < 2 ^ h
  · have c2 := c1 (q : Nat) ⟨by omega, by omega⟩
    rw [← hn0 (q : Nat)] at c2
    repeat' (first | (refine SS_ ?_) | (refine Seq.callq false (c2) Tryd.func46 GG_ SG_ (by rfl) rfl rfl rfl (by rfl) rfl VW_ NI_ NI_ FR_ ?_) | (refine VC.litT (by rfl) LTR_ ?_) | fail)
    refine ⟨q + 1, by omega, by omega, ?_⟩
    (refine Sim.less [(0, 2)] (by rfl) ?_ ?_ <;> (repeat' (first | (exact EnvLe.nil) | (exact HeapLe.nil) | (with_reducible apply EnvLe.cons) | (with_reducible apply HeapLe.cons) | ((with_reducible refine RelA.int ?_; first | (refine Keep.mk ?_; first | with_reducible rfl | omega | decide) | skip)) | (exact rfl) | (exact ⟨rfl, rfl⟩) | ((refine RelA.arr ?_; intro i hi)) | fail)) <;> (try with_reducible refine Keep.mk ?_))
    exact RelA.of_eq (NoId.self (fun i hi => trivial)) (joinF_snocF (F := fun j => digA (ndD seed 0 ((j : Nat) : Int))) hi rfl)
  · obtain rfl : q = 2 ^ h := by omega
    refine VC.conv (Sim.still (e' := [(6, .int .i64 ((2 ^ h : Nat) : Int)), (5, lvA seed 0 (2 ^ h)), (1, .int .i64 (h : Nat))]) (h' := []) [0] trivial (by rfl) (EnvV.cons (by rfl) (View.rel rfl) (by repeat' (first | exact trivial | exact rfl | refine NoFr.bif ?_ ?_ | refine NoId.bif ?_ ?_ | refine AllFr.bif ?_ ?_ | (intro i hi) | (refine ⟨?_, ?_⟩) | (intro e; cases e; done))) (EnvV.cons (by rfl) (view_lv (by rfl) ⟨rfl, rfl⟩ rfl) (by repeat' (first | exact trivial | exact rfl | refine NoFr.bif ?_ ?_ | refine NoId.bif ?_ ?_ | refine AllFr.bif ?_ ?_ | (intro i hi) | (refine ⟨?_, ?_⟩) | (intro e; cases e; done))) (EnvV.cons (by rfl) (View.rel rfl) (by repeat' (first | exact trivial | exact rfl | refine NoFr.bif ?_ ?_ | refine NoId.bif ?_ ?_ | refine AllFr.bif ?_ ?_ | (intro i hi) | (refine ⟨?_, ?_⟩) | (intro e; cases e; done))) EnvV.nil)))) ?_
    repeat' (first | (refine SS_ ?_) | (refine VC.litF (by rfl) LFA_ ?_) | fail)
    refine VC.loop (fun l : Nat => ⟨[(8, .int .i64 (l : Nat)), (7, .sl 1 [] 1 0 (l + 1)), (1, .int .i64 (h : Nat))], [(1, .arr (l + 1) 1 (fun j => lvA seed j (2 ^ (h - j))))], gR, 2⟩) (fun l => l ≤ h) (fun l => h - l) 0 (Nat.zero_le _) (by
      (refine Sim.less [] (by rfl) ?_ ?_ <;> (repeat' (first | (exact EnvLe.nil) | (exact HeapLe.nil) | (with_reducible apply EnvLe.cons) | (with_reducible apply HeapLe.cons) | ((with_reducible refine RelA.int ?_; first | (refine Keep.mk ?_; first | with_reducible rfl | omega | decide) | skip)) | (exact rfl) | (exact ⟨rfl, rfl⟩) | ((refine RelA.arr ?_; intro i hi)) | fail)) <;> (try with_reducible refine Keep.mk ?_))
      · obtain rfl : i = 0 := by omega
        exact NoId.self (fun i hi i hi => trivial)) fun l hl => ?_
    by_cases hlh : l < h
    · have e2 : 2 ^ (h - l) = 2 * 2 ^ (h - l - 1) := by
        obtain ⟨d, hd⟩ : ∃ d, h - l = d + 1 := ⟨h - l - 1, by omega⟩
        rw [hd, Nat.add_sub_cancel, Nat.pow_succ]; omega
      have e4 : 2 ^ (h - (0 + ((l : Nat) : Int).toNat)) = 2 * 2 ^ (h - l - 1) := by rw [Int.toNat_natCast, Nat.zero_add]; exact e2
      have e3 : 2 ^ (h - l) ≤ 2 ^ 6 := Nat.pow_le_pow_right (by decide) (by omega)
      repeat' (first | (refine SS_ ?_) | (refine VC.litT (by rfl) LTR_ ?_) | fail)
      refine VC.conv (Sim.ghost 9 16 (fun j => digA (ndD seed (l + 1) ((j : Nat) : Int))) (by rfl) (.inl rfl)) ?_
      refine VC.loop (fun m : Nat => ⟨[(10, .int .i64 (2 * (m : Int))), (9, .sl 2 [] 16 0 m), (8, .int .i64 (l : Nat)), (7, .sl 1 [] 1 0 (l + 1)), (1, .int .i64 (h : Nat))], [(2, .arr m 16 (fun j => digA (ndD seed (l + 1) ((j : Nat) : Int)))), (1, .arr (l + 1) 1 (fun j => lvA seed j (2 ^ (h - j))))], gR, 3⟩) (fun m => m ≤ 2 ^ (h - l - 1)) (fun m => 2 ^ (h - l - 1) - m) 0 (Nat.zero_le _) (Sim.less [] (by rfl) R_ R_) fun m hm => ?_
      by_cases hmm : m < 2 ^ (h - l - 1)
      · have c3 := rnode_ok (ndD seed (0 + ((l : Nat) : Int).toNat) (((2 * (m : Int)).toNat : Nat) : Int)) (ndD seed (0 + ((l : Nat) : Int).toNat) (((2 * (m : Int) + 1).toNat : Nat) : Int)) (hnl _ _) (hnl _ _)
        have e5 : nodeD (ndD seed (0 + ((l : Nat) : Int).toNat) (((2 * (m : Int)).toNat : Nat) : Int)) (ndD seed (0 + ((l : Nat) : Int).toNat) (((2 * (m : Int) + 1).toNat : Nat) : Int)) = ndD seed (l + 1) ((m : Nat) : Int) := by
          rw [hns, Int.toNat_natCast, Nat.zero_add, show (((2 * (m : Int)).toNat : Nat) : Int) = 2 * (m : Int) by omega, show (((2 * (m : Int) + 1).toNat : Nat) : Int) = 2 * (m : Int) + 1 by omega]
        rw [e5] at c3
        repeat' (first | (refine SS_ ?_) | (refine VC.drawm (id := 14) [(0, 0), (1, 0), (2, 0), (3, 6), (4, 14), (5, 0), (6, 62), (7, 126), (8, 0), (9, 0), (10, 768), (11, 1792), (12, 0), (13, 4096), (14, 16128), (15, 32512), (16, 65534), (17, 131070)] [18, 19] (by rfl) (by kernel_rfl) (by rfl) ?_) | (refine VC.litT (by rfl) LTR_ ?_) | (refine DD_ ?_) | (refine DSeq.callq false (c3) Tryd.func43 GG_ SG_ (by rfl) (fastE (by rfl)) (fastH (by rfl)) (by rfl) rfl rfl rfl (by rfl) (by rfl) VW_ NI_ NI_ FR_ ?_) | fail)
        refine ⟨m + 1, by omega, by omega, ?_⟩
        (refine Sim.less [(2, 4)] (by rfl) ?_ ?_ <;> (repeat' (first | (exact EnvLe.nil) | (exact HeapLe.nil) | (with_reducible apply EnvLe.cons) | (with_reducible apply HeapLe.cons) | ((with_reducible refine RelA.int ?_; first | (refine Keep.mk ?_; first | with_reducible rfl | omega | decide) | skip)) | (exact rfl) | (exact ⟨rfl, rfl⟩) | ((with_reducible refine RelA.rsl ?_; intro i hi)) | ((with_reducible refine RelA.arr ?_; intro i hi)) | ((refine RelA.arr ?_; intro i hi)) | fail)) <;> (try with_reducible refine Keep.mk ?_))
        exact RelA.of_eq (NoId.self (fun i hi => trivial)) (joinF_snocF (F := fun j => digA (ndD seed (l + 1) ((j : Nat) : Int))) hi rfl)
      · obtain rfl : m = 2 ^ (h - l - 1) := by omega
        refine VC.conv (Sim.still (e' := [(10, .int .i64 (2 * ((2 ^ (h - l - 1) : Nat) : Int))), (9, lvA seed (l + 1) (2 ^ (h - l - 1))), (8, .int .i64 (l : Nat)), (7, .sl 1 [] 1 0 (l + 1)), (1, .int .i64 (h : Nat))]) (h' := [(1, .arr (l + 1) 1 (fun j => lvA seed j (2 ^ (h - j))))]) [2] ⟨rfl, trivial⟩ (by rfl) (EnvV.cons (by rfl) (View.rel rfl) (by repeat' (first | exact trivial | exact rfl | refine NoFr.bif ?_ ?_ | refine NoId.bif ?_ ?_ | refine AllFr.bif ?_ ?_ | (intro i hi) | (refine ⟨?_, ?_⟩) | (intro e; cases e; done))) (EnvV.cons (by rfl) (view_lv (by rfl) ⟨rfl, rfl⟩ rfl) (by repeat' (first | exact trivial | exact rfl | refine NoFr.bif ?_ ?_ | refine NoId.bif ?_ ?_ | refine AllFr.bif ?_ ?_ | (intro i hi) | (refine ⟨?_, ?_⟩) | (intro e; cases e; done))) (EnvV.cons (by rfl) (View.rel rfl) (by repeat' (first | exact trivial | exact rfl | refine NoFr.bif ?_ ?_ | refine NoId.bif ?_ ?_ | refine AllFr.bif ?_ ?_ | (intro i hi) | (refine ⟨?_, ?_⟩) | (intro e; cases e; done))) (EnvV.cons (by rfl) (View.rel ⟨rfl, rfl⟩) (by repeat' (first | exact trivial | exact rfl | refine NoFr.bif ?_ ?_ | refine NoId.bif ?_ ?_ | refine AllFr.bif ?_ ?_ | (intro i hi) | (refine ⟨?_, ?_⟩) | (intro e; cases e; done))) (EnvV.cons (by rfl) (View.rel rfl) (by repeat' (first | exact trivial | exact rfl | refine NoFr.bif ?_ ?_ | refine NoId.bif ?_ ?_ | refine AllFr.bif ?_ ?_ | (intro i hi) | (refine ⟨?_, ?_⟩) | (intro e; cases e; done))) EnvV.nil)))))) ?_
        repeat' (first | (refine SS_ ?_) | (refine VC.litF (by rfl) LFA_ ?_) | fail)
        refine ⟨l + 1, by omega, by omega, ?_⟩
        (refine Sim.less [(1, 4)] (by rfl) ?_ ?_ <;> (repeat' (first | (exact EnvLe.nil) | (exact HeapLe.nil) | (with_reducible apply EnvLe.cons) | (with_reducible apply HeapLe.cons) | ((with_reducible refine RelA.int ?_; first | (refine Keep.mk ?_; first | with_reducible rfl | omega | decide) | skip)) | (exact rfl) | (exact ⟨rfl, rfl⟩) | ((refine RelA.arr ?_; intro i hi)) | fail)) <;> (try with_reducible refine Keep.mk ?_))
        exact RelA.of_eq (NoId.self (fun i hi i hi => trivial)) (joinF_snocF (F := fun j => lvA seed j (2 ^ (h - j))) hi rfl)
    · obtain rfl : l = h := by omega
      repeat' (first | (refine SS_ ?_) | (refine VC.litF (by rfl) LFA_ ?_) | fail)
      (refine retC_mk ([(4, .sl 1 [] 1 0 (l + 1))]) ([(1, .arr (l + 1) 1 (fun j => lvA seed j (2 ^ (l - j))))]) 2 (Sim.less [] (by rfl) R_ R_) (retQ_ok (by rfl) ([(1, .arr (l + 1) 1 (fun j => lvA seed j (2 ^ (l - j))))]) (fun i av h => h) ⟨?_, ?_⟩)) <;> rfl
theorem rlevels_ok (seed : List UInt8) (hs : seed.length ≤ 1000000) (h : Nat) (hh : h ≤ 6) : Ok Tryd.prog 24 gR [] (.pair (.str seed) (.pair (.int .i64 (h : Nat)) .nul)) (fun r h' => r = .rsl true (h + 1) 1 (fun l => lvA seed l (2 ^ (h - l))) ∧ h' = []) :=
  (rlevels_own seed hs h hh).still fun r h' e => by
    obtain ⟨rfl, rfl⟩ := e
    exact ⟨_, ViewT.sl rfl rfl trivial (by omega) rfl fun i hi => ViewT.rel (by rw [Nat.zero_add]; exact NoId.self (fun i hi i hi => trivial)), rfl, rfl⟩
end Go.Proofs.YthejnchhddggmaaDoor
