
/- The examples of the documentation (dioramalaw03.sanity). -/
import Derived.Test.YthejnchhddggmaaDoorNu
import Derived.Test.YthejnchhddggmaaDoorNv
set_option linter.unusedSimpArgs false
set_option linter.unusedVariables false
namespace Go.Proofs.YthejnchhddggmaaDoor
open Go.V Go.RowKit Go.U Go.L Go.Lx Go.Sg
set_option maxRecDepth 10000
set_option maxHeartbeats 4000000
def seedS (c : UInt8) : List UInt8 := List.replicate 32 c
theorem seedS_length (c : UInt8) : (seedS c).length = 32 := List.length_replicate ..
theorem seedS_get (c : UInt8) (i : Nat) (h : i < 32) : (seedS c).getD i 0 = c := by
  unfold seedS; rw [List.getD_eq_getElem?_getD, List.getElem?_replicate, if_pos h]; rfl
theorem lseed_ok (c : UInt8) : Ok Tryd.prog 20 [] [] (.pair (.int .u8 (c.toNat : Nat)) .nul) (fun r h' => r = .str (seedS c) ∧ h' = []) := by
  have hl := seedS_length c
  have hg := seedS_get c
  generalize seedS c = S at *
  refine Ok.of_vcC tt_ok Tryd.func20 rfl rfl (by show 1 ≤ _; decide) 0 (hlt_ok (by rfl)) fun c0 => ?_
  repeat' (first | (refine SS_ ?_) | fail)
  refine VC.loop (fun q : Nat => ⟨[(4, .int .i64 (q : Nat)), (3, .sl 0 [] 1 0 32), (0, .int .u8 (c.toNat : Nat))], [(0, .arr 32 1 (fun j => .int .u8 (if j < q then (c.toNat : Nat) else 0)))], [], 1⟩) (fun q => q ≤ 32) (fun q => 32 - q) 0 (by omega) (Sim.less [] (by rfl) R_ R_) fun q hq => ?_
  by_cases hqq : q < 32
  · repeat' (first | (refine SS_ ?_) | (refine VC.litT (by rfl) LTR_ ?_) | fail)
    refine ⟨q + 1, by omega, by omega, ?_⟩
    (refine Sim.less [] (by rfl) ?_ ?_ <;> (repeat' (first | (exact EnvLe.nil) | (exact HeapLe.nil) | (with_reducible apply EnvLe.cons) | (with_reducible apply HeapLe.cons) | ((with_reducible refine RelA.int ?_; first | (refine Keep.mk ?_; first | with_reducible rfl | omega | decide) | skip)) | (exact rfl) | (exact ⟨rfl, rfl⟩) | ((with_reducible refine RelA.arr ?_; intro i hi)) | fail)) <;> (try with_reducible refine Keep.mk ?_))
    by_cases e2 : i = 0 + ((q : Nat) : Int).toNat
    · rw [bif_eq e2, e2, Int.toNat_natCast, if_pos (by omega)]; exact rfl
    · rw [bif_ne e2]
      rw [Int.toNat_natCast] at e2
      have hc : (if i < q + 1 then ((c.toNat : Nat) : Int) else 0) = if i < q then ((c.toNat : Nat) : Int) else 0 := by
        by_cases h : i < q
        · rw [if_pos h, if_pos (by omega)]
        · rw [if_neg h, if_neg (by omega)]
      rw [hc]; exact rfl
  · obtain rfl : q = 32 := by omega
    refine VC.conv (s' := ⟨[(4, .int .i64 (32 : Nat)), (3, .sl 0 [] 1 0 32), (0, .int .u8 (c.toNat : Nat))], [(0, u8A 32 S)], [], 1⟩) (by
      (refine Sim.less [] (by rfl) ?_ ?_ <;> (repeat' (first | (exact EnvLe.nil) | (exact HeapLe.nil) | (with_reducible apply EnvLe.cons) | (with_reducible apply HeapLe.cons) | ((with_reducible refine RelA.int ?_; first | (refine Keep.mk ?_; first | with_reducible rfl | omega | decide) | skip)) | (exact rfl) | (exact ⟨rfl, rfl⟩) | ((refine RelA.arr ?_; intro i hi)) | fail)) <;> (try with_reducible refine Keep.mk ?_))
      rw [if_pos hi, hg i hi]) ?_
    repeat' (first | (refine SS_ ?_) | (refine Seq.str (S) tt_ok (by rfl) (by rfl) (by rfl) (by rfl) (by rfl) (by (first | exact trivial | exact u8_in _ rfl | exact u32_in _ rfl | ((with_reducible refine AllP.guard ?_); simp only [AllP, inI, fitV, maxK, inK, inbL, inb, List.append, List.cons_append, List.nil_append, true_and, and_true]; first | done | omega))) (by rfl) (.inl rfl) (by rfl) rfl (hl) (fun i hi => by first | exact rfl | simp only [Nat.zero_add]) ?_) | (refine VC.litF (by rfl) LFA_ ?_) | fail)
    (refine retC_mk ([(2, .str S)]) ([]) 1 (Sim.less [] (by rfl) R_ R_) (retQ_ok (by rfl) ([]) (fun i av h => h) ⟨?_, ?_⟩)) <;> rfl
abbrev s5 : List UInt8 := seedS 5
abbrev p5 : List UInt8 := ndD s5 1 0
theorem s5_nat : nat s5 = List.replicate 32 5 := by decide
theorem val_L (k : Nat) (hk : k < 65536) (c : Nat) (hc : c < 68) : nat (valN s5 (k : Nat) c) = advL k c 0 3 (startL (List.replicate 32 5) k c) := by
  unfold valN
  have h1 := adv_L k c 0 hk (by omega) (startD s5 (k : Nat) (c : Nat)) (startD_length _ _ _) 3 (by omega)
  rw [start_L s5 (by rw [seedS_length]; decide) k c hk (by omega), s5_nat] at h1
  exact h1
theorem leaf0 : nat (ndD s5 0 0) = xL0 := by
  rw [← k_L0]
  exact leaf_L (valN s5 0) _ (fun c => valN_length _ _ _) fun c hc => val_L 0 (by decide) c hc
theorem leaf1 : nat (ndD s5 0 1) = xL1 := by
  rw [← k_L1]
  exact leaf_L (valN s5 1) _ (fun c => valN_length _ _ _) fun c hc => val_L 1 (by decide) c hc
theorem node_L (a b : List UInt8) (ha : a.length = 16) (hb : b.length = 16) : nat (nodeD a b) = dgL 2 [nat a, nat b] := by
  have h := dig_L 2 (by decide) [a, b] (by
    intro p hp
    rcases List.mem_cons.1 hp with rfl | hp
    · rw [ha]; decide
    · rw [List.mem_singleton.1 hp, hb]; decide)
  exact h
theorem p5_nat : nat p5 = xp := by
  rw [← k_p, ← leaf0, ← leaf1]
  exact node_L _ _ (ndD_length _ _ _) (ndD_length _ _ _)
theorem msg_L (p : List UInt8) (hp : p.length = 16) (i : Nat) (hi : i < 65536) (m : List UInt8) (hm : m.length < 65536) : nat (msgD p (i : Nat) m) = dgL 4 [nat p, intL i, nat m] := by
  have hil := Wire.int_length (i : Nat)
  have h := dig_L 4 (by decide) [p, Wire.int (i : Nat), m] (by
    intro q hq
    simp only [List.mem_cons, List.not_mem_nil, or_false] at hq
    rcases hq with rfl | rfl | rfl
    · rw [hp]; decide
    · omega
    · exact hm)
  simp only [List.map_cons, List.map_nil] at h
  rw [int_L i hi] at h
  exact h
theorem dm_nat : nat (msgD p5 ((1 : Nat) : Int) [109]) = xDm := by
  have h := msg_L p5 (ndD_length _ _ _) 1 (by decide) [109] (by decide)
  rw [p5_nat] at h
  exact h.trans k_Dm
theorem d0_nat : nat (msgD p5 ((0 : Nat) : Int) [109]) = xD0 := by
  have h := msg_L p5 (ndD_length _ _ _) 0 (by decide) [109] (by decide)
  rw [p5_nat] at h
  exact h.trans k_D0
theorem dn_nat : nat (msgD p5 ((1 : Nat) : Int) [110]) = xDn := by
  have h := msg_L p5 (ndD_length _ _ _) 1 (by decide) [110] (by decide)
  rw [p5_nat] at h
  exact h.trans k_Dn
theorem dm_ne : msgD p5 ((1 : Nat) : Int) [109] ≠ msgD p5 ((0 : Nat) : Int) [109] := fun e => by
  have h := dm_nat
  rw [e, d0_nat] at h
  exact k_ne.1 h.symm
theorem digsL_le (l : List Nat) (c : Nat) : digsL l c ≤ 3 := by
  have hd : ∀ n, dsL l n ≤ 3 * n := fun n => by
    induction n with
    | zero => exact Nat.le_refl _
    | succ n ih => unfold dsL; omega
  unfold digsL digL
  split <;> omega
theorem restS_val (seed : List UInt8) (h i : Nat) (m : List UInt8) (c : Nat) (hc : c < 68) : valR (restS seed h i m) c = valS seed i (msgD (ndD seed h 0) (i : Nat) m) c := valR_catl _ _ (fun c => valS_length _ _ _ _) 68 h c hc
theorem restS_up (seed : List UInt8) (h i : Nat) (m : List UInt8) (c : Nat) (hc : c < h) : valR (restS seed h i m) (68 + c) = ndD seed c (sib i c : Nat) := valR_catr _ _ (fun c => valS_length _ _ _ _) (fun c => ndD_length _ _ _) 68 h c hc
theorem wrong_gen (seed D1 D2 R : List UInt8) (hs : nat seed = List.replicate 32 5) (hsl : seed.length = 32) (hR : ∀ c, c < 68 → valR R c = valS seed 1 D1 c) (D1n : nat D1 = xDm) (D2n : nat D2 = xDn) : nat (leafV (valQ ((1 : Nat) : Int) D2 R)) = xLw := by
  rw [← k_Lw]
  refine leaf_L _ _ (fun c => valQ_length _ _ _ _) fun c hc => ?_
  unfold valQ
  rw [hR c hc]
  have hl := valS_length seed 1 D1 c
  have q1 := digs_L D1 c
  have q2 := digs_L D2 c
  rw [D1n] at q1
  rw [D2n] at q2
  have l1 := digsL_le xDm c
  have l2 := digsL_le xDn c
  have a1 := adv_L 1 c 0 (by decide) (by omega) (startD seed ((1 : Nat) : Int) (c : Nat)) (startD_length _ _ _) (digsL xDm c) (by omega)
  rw [start_L seed (by omega) 1 c (by decide) (by omega), hs] at a1
  have e1 : valS seed 1 D1 c = advN ((1 : Nat) : Int) (c : Nat) ((0 : Nat) : Int) (digsL xDm c) (startD seed ((1 : Nat) : Int) (c : Nat)) := by
    unfold valS; rw [q1, Int.toNat_natCast]; rfl
  rw [e1] at hl ⊢
  have a2 := adv_L 1 c (digsL xDn c) (by decide) (by omega) (advN ((1 : Nat) : Int) (c : Nat) ((0 : Nat) : Int) (digsL xDm c) (startD seed ((1 : Nat) : Int) (c : Nat))) hl (3 - digsL xDn c) (by omega)
  rw [q2, show ((3 : Int) - ((digsL xDn c : Nat) : Int)).toNat = 3 - digsL xDn c by omega, a2, a1]
theorem up_one (D R : List UInt8) : upV 1 D R 1 = nodeD (valR R (68 + 0)) (leafV (valQ ((1 : Nat) : Int) D R)) := by
  unfold upV
  rw [if_pos (by decide)]
  rfl
theorem wrong_ne : upV 1 (msgD p5 ((1 : Nat) : Int) [110]) (restS s5 1 1 [109]) 1 ≠ p5 := by
  intro e
  have h2 := wrong_gen s5 (msgD p5 ((1 : Nat) : Int) [109]) (msgD p5 ((1 : Nat) : Int) [110]) (restS s5 1 1 [109]) s5_nat (seedS_length 5) (fun c hc => restS_val s5 1 1 [109] c hc) dm_nat dn_nat
  have h1 := restS_up s5 1 1 [109] 0 (by decide)
  have hsb : sib 1 0 = 0 := by decide
  rw [hsb] at h1
  rw [up_one, h1] at e
  have h3 := node_L (ndD s5 0 ((0 : Nat) : Int)) (leafV (valQ ((1 : Nat) : Int) (msgD p5 ((1 : Nat) : Int) [110]) (restS s5 1 1 [109]))) (ndD_length _ _ _) (leafV_length _)
  have l0 : nat (ndD s5 0 ((0 : Nat) : Int)) = xL0 := leaf0
  rw [e, p5_nat, h2, l0, k_pw] at h3
  exact k_ne.2 h3.symm
theorem zA_eq : digA (List.replicate 16 0) = .arr 16 1 (fun _ => .int .u8 0) := by
  unfold digA u8A
  congr 1
  funext i
  rw [List.getD_eq_getElem?_getD, List.getElem?_replicate]
  split <;> rfl
end Go.Proofs.YthejnchhddggmaaDoor
