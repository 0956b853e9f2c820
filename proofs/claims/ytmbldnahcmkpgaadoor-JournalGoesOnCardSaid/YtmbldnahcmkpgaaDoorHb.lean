/- hash.schedule returns Sha.sched. -/
import Derived.Test.YtmbldnahcmkpgaaDoorHa
import Derived.StillTailTactics
set_option linter.unusedSimpArgs false
set_option linter.unusedVariables false
namespace Go.Proofs.YtmbldnahcmkpgaaDoor
open Go.RowKit Go.U Go.L
def u32s (l : List UInt32) : List Value := l.map fun x => .int .u32 x.toNat
/-- The words that are there, then zeros. -/
def arr64 (l : List UInt32) : List Value := u32s (l ++ List.replicate (64 - l.length) 0)
theorem arr64_length (l : List UInt32) (h : l.length ≤ 64) : (arr64 l).length = 64 := by simp [arr64, u32s]; omega
/-- The bytes of a word that have been read. -/
def part (b : List UInt8) (p : Nat) : Nat → UInt32
  | 0 => 0
  | k + 1 => (part b p k <<< 8) ||| Sha.byteW (b.getD (p + k) 0)
theorem arr64_at (l : List UInt32) (i : Nat) (h : i < l.length) : (arr64 l)[i]? = some (.int .u32 (l.getD i 0).toNat) := by
  unfold arr64 u32s
  rw [List.map_append, List.getElem?_append_left (by simpa using h)]
  simp [h]
theorem arr64_zero (l : List UInt32) (h : l.length < 64) : (arr64 l)[l.length]? = some (.int .u32 0) := by
  unfold arr64 u32s
  rw [List.map_append, List.getElem?_append_right (by simp), List.length_map, Nat.sub_self]
  obtain ⟨n, hn⟩ : ∃ n, 64 - l.length = n + 1 := ⟨64 - l.length - 1, by omega⟩
  rw [hn]; rfl
theorem arr64_snoc (l : List UInt32) (x : UInt32) (h : l.length < 64) : (arr64 l).set l.length (.int .u32 x.toNat) = arr64 (l ++ [x]) := by
  unfold arr64 u32s
  obtain ⟨n, hn⟩ : ∃ n, 64 - l.length = n + 1 := ⟨64 - l.length - 1, by omega⟩
  have e : 64 - (l ++ [x]).length = n := by simp; omega
  rw [hn, e, List.map_append, List.map_append, List.map_append]
  rw [List.set_append_right _ _ (by simp), List.length_map, Nat.sub_self, List.replicate_succ]
  simp
theorem byteW_nat (b : UInt8) : ((Sha.byteW b).toNat : Int) = b.toNat := by simp [Sha.byteW]
theorem part_step (p : UInt32) (b : UInt8) : bits BinOp.or IntKind.u32 (p.toNat * 256 % 4294967296) b.toNat = (((p <<< 8) ||| Sha.byteW b).toNat : Int) := by
  have h := shl32 p 8 (by omega)
  rw [show ((2 : Int) ^ 8) = 256 from rfl] at h
  rw [h, ← byteW_nat, or32]; rfl
theorem part_four (b : List UInt8) (p : Nat) : part b p 4 = Sha.be32 b p := by
  unfold Sha.be32
  simp only [part, Nat.add_zero]
  generalize Sha.byteW (b.getD p 0) = x0
  generalize Sha.byteW (b.getD (p + 1) 0) = x1
  generalize Sha.byteW (b.getD (p + 2) 0) = x2
  generalize Sha.byteW (b.getD (p + 3) 0) = x3
  apply UInt32.toBitVec_inj.1
  simp [UInt32.toBitVec_shiftLeft]
  rw [BitVec.shiftLeft_or_distrib, BitVec.shiftLeft_or_distrib, BitVec.shiftLeft_or_distrib, ← BitVec.shiftLeft_add, ← BitVec.shiftLeft_add, ← BitVec.shiftLeft_add]
theorem sched_low (b : List UInt8) (t : Nat) (h : t < 16) : Sha.sched b t ++ [Sha.be32 b (4 * t)] = Sha.sched b (t + 1) := by
  simp only [Sha.sched, Sha.nextW, Sha.sched_length, if_pos h]
theorem aggW64 : AggT Tryd.prog 123 64 := ⟨.array 64 109, by kernel_rfl, rfl, by kernel_rfl⟩
theorem infoW64 : (Tryd.prog.info? 123).map (·.size) = some 64 := by kernel_rfl
theorem one_u32s (l : List UInt32) : ∀ u ∈ u32s l, u.oneCell' = true := by
  intro u hu; obtain ⟨_, _, rfl⟩ := List.mem_map.1 hu; rfl
theorem one_arr (l : List UInt32) : ∀ u ∈ arr64 l, u.oneCell' = true := one_u32s _
theorem arr64_full (l : List UInt32) (h : l.length = 64) : arr64 l = u32s l := by simp [arr64, h]
theorem below_drewN {B : Nat} {a w : World} (h : Below B a w) (n : Nat) : Below B a (w.drewN n) := ⟨h.os, h.tape, h.output, h.size, h.block⟩
theorem sum4 (x p y q : UInt32) : ((x.toNat : Int) + bits BinOp.xor IntKind.u32 (bits BinOp.xor IntKind.u32 (Sha.rotr p 7).toNat (Sha.rotr p 18).toNat) (p.toNat / 8) + y.toNat +
    bits BinOp.xor IntKind.u32 (bits BinOp.xor IntKind.u32 (Sha.rotr q 17).toNat (Sha.rotr q 19).toNat) (q.toNat / 1024)) % 4294967296 = ((x + Sha.sg0 p + y + Sha.sg1 q).toNat : Int) := by
  have h3 := shr32 p 3 (by omega)
  have h10 := shr32 q 10 (by omega)
  rw [show ((2 : Int) ^ 3) = 8 from rfl] at h3
  rw [show ((2 : Int) ^ 10) = 1024 from rfl] at h10
  rw [h3, h10, xor32, xor32, xor32, xor32, ← add32, ← add32, ← add32]
  simp only [Sha.sg0, Sha.sg1]
  have e1 : UInt32.ofNat 3 = 3 := rfl
  have e2 : UInt32.ofNat 10 = 10 := rfl
  rw [e1, e2]
  omega
theorem hset_same {cs : List Value} {i : Nat} {v : Value} (h : cs[i]? = some v) : cs.set i v = cs := by
  apply List.ext_getElem?
  intro j
  by_cases hj : i = j
  · subst hj
    rw [List.getElem?_set_self (by rcases Nat.lt_or_ge i cs.length with h1 | h1; exact h1; rw [List.getElem?_eq_none h1] at h; cases h), h]
  · rw [List.getElem?_set_ne hj]
set_option maxHeartbeats 2000000 in
theorem schedule_any (b : List UInt8) (g off cap : Nat) (w : World) (hb : b.length = 64) (hcap : 64 ≤ cap ∧ cap ≤ 1099511627776) (hg : g < w.heap.size)
    (hc : ∀ j, j < 64 → w.cell? ⟨g, off + j, none⟩ = some (.int .u8 ((b.getD j 0).toNat : Nat))) :
    Calls Tryd.prog 76 #[.slice (some ⟨g, off, none⟩) 64 cap] w fun e w' => e = .returned (.agg (u32s (Sha.sched b 64)).toArray) ∧ Below w.heap.size w w' := by
  obtain ⟨hcap1, hcap2⟩ := hcap
  have HC := Lib.hid hc
  clear hc
  go_enter Tryd.func76, Tryd.ntmps76
  go_wp2
  go_loopw [11] (fun i wr => ∃ t : Nat, t ≤ 64 ∧ i = .int .i64 t ∧ Blk wr w.heap.size (arr64 []) 123 ∧ Blk wr (w.heap.size + 1) (arr64 (Sha.sched b t)) 123 ∧ Below w.heap.size w wr) (fun i _ => (64 - intOf i).toNat)
  case atStart =>
    refine ⟨0, by omega, rfl, (Blk.new _ (arr64 []) _).alloc _, ?_, ((Below.refl _ _).alloc (Nat.le_refl _) _).alloc (by simp) _⟩
    have := Blk.new (w.alloc (.cells (arr64 []).toArray 123)) (arr64 []) 123
    simp only [World.size_alloc] at this
    exact this
  case round =>
    obtain ⟨t, ht, rfl, hB0, hB1, hb1⟩ := hrel
    have hsz := hb1.size
    by_cases h64 : t < 64
    · by_cases h16 : t < 16
      · have hcells : ∀ j, j < 4 → wr.cell? ⟨g, off + 4 * t + j, none⟩ = some (.int .u8 ((b.getD (4 * t + j) 0).toNat : Nat)) := by
          intro j hj
          have := HC.out (4 * t + j) (by omega)
          rw [← Nat.add_assoc] at this
          exact (hb1.cell (p := ⟨g, off + 4 * t + j, none⟩) hg).trans this
        have HCS := Lib.hid hcells
        clear hcells
        have d64 : decide ((t : Int) < 64) = true := by simp; omega
        have d16 : decide ((t : Int) < 16) = true := by simp; omega
        have hlen := Sha.sched_length b t
        have HL := Lib.hid hlen
        clear hlen
        obtain ⟨wo, rfl⟩ : ∃ wo : World, wo = wr := ⟨_, rfl⟩
        go_wp2
        go_loopw [24] (fun i wr => ∃ k : Nat, k ≤ 4 ∧ i = .int .i64 k ∧ Blk wr w.heap.size (arr64 []) 123 ∧ Blk wr (w.heap.size + 1) ((arr64 (Sha.sched b t)).set t (.int .u32 (part b (4 * t) k).toNat)) 123 ∧ Below w.heap.size w wr ∧ wr.heap.size = wo.heap.size) (fun i _ => (4 - intOf i).toNat)
        case atStart =>
          refine ⟨0, by omega, rfl, hB0, ?_, hb1, rfl⟩
          have := arr64_zero (Sha.sched b t) (by rw [HL.out]; omega)
          rw [HL.out] at this
          have e : part b (4 * t) 0 = 0 := rfl
          rw [e]
          have e2 : Value.int .u32 ((0 : UInt32).toNat : Int) = .int .u32 0 := rfl
          rw [e2, hset_same this]; exact hB1
        case round =>
          obtain ⟨k, hk, rfl, hC0, hC1, hb2, hsz2⟩ := hrel
          by_cases hk4 : k < 4
          · obtain ⟨bv, hbv⟩ : ∃ bv, bv = b.getD (4 * t + k) 0 := ⟨_, rfl⟩
            have hc1 : wr.cell? ⟨g, off + 4 * t + k, none⟩ = some (.int .u8 (bv.toNat : Nat)) := by
              rw [hbv]
              exact ((hb2.cell (p := ⟨g, off + 4 * t + k, none⟩) hg).trans (hb1.cell (p := ⟨g, off + 4 * t + k, none⟩) hg).symm).trans (HCS.out k hk4)
            have HBV := Lib.hid hbv
            clear hbv
            have hbl : (bv.toNat : Int) ≤ 255 := by have := bv.toNat_lt; omega
            have hbl0 : 0 ≤ (bv.toNat : Int) := by omega
            have hc2 : wr.cell? ⟨w.heap.size + 1, t, none⟩ = some (.int .u32 (part b (4 * t) k).toNat) := hC1.cell (by rw [List.getElem?_set_self (by rw [arr64_length _ (by rw [HL.out]; omega)]; omega)])
            have hc3 := hC1.free (i := t) (by rw [List.length_set, arr64_length _ (by rw [HL.out]; omega)]; omega)
            go_wp2
            refine ⟨⟨k + 1, by omega, by go_num, hC0.other t _ (by omega), ?_, hb2.setCell (by show _ ≤ w.heap.size + 1; omega) _, by simpa using hsz2⟩, by simp [intOf]; omega⟩
            have := hC1.set t (.int .u32 (part b (4 * t) (k + 1)).toNat)
            rw [List.set_set] at this
            rw [part_step, HBV.out]
            exact this
          · obtain rfl : k = 4 := by omega
            have hend : (arr64 (Sha.sched b t)).set t (.int .u32 (part b (4 * t) 4).toNat) = arr64 (Sha.sched b (t + 1)) := by
              have := arr64_snoc (Sha.sched b t) (part b (4 * t) 4) (by rw [HL.out]; omega)
              rw [HL.out] at this
              rw [this, part_four, sched_low b t h16]
            rw [hend] at hC1
            clear hend
            go_wp2
            exact ⟨⟨t + 1, by omega, by go_num, hC0, hC1, hb2⟩, by simp [intOf]; omega⟩
      · have d64 : decide ((t : Int) < 64) = true := by simp; omega
        have d16 : decide ((t : Int) < 16) = false := by simp; omega
        obtain ⟨L, hL⟩ : ∃ L, L = Sha.sched b t := ⟨_, rfl⟩
        have hlen : L.length = t := by rw [hL]; exact Sha.sched_length b t
        rw [← hL] at hB1
        have h15 : wr.cell? ⟨w.heap.size + 1, t - 15, none⟩ = some (.int .u32 (L.getD (t - 15) 0).toNat) := hB1.cell (arr64_at L _ (by omega))
        have h2 : wr.cell? ⟨w.heap.size + 1, t - 2, none⟩ = some (.int .u32 (L.getD (t - 2) 0).toNat) := hB1.cell (arr64_at L _ (by omega))
        have h16' : wr.cell? ⟨w.heap.size + 1, t - 16, none⟩ = some (.int .u32 (L.getD (t - 16) 0).toNat) := hB1.cell (arr64_at L _ (by omega))
        have h7 : wr.cell? ⟨w.heap.size + 1, t - 7, none⟩ = some (.int .u32 (L.getD (t - 7) 0).toNat) := hB1.cell (arr64_at L _ (by omega))
        have HX : Hid (L.getD (t - 16) 0 + Sha.sg0 (L.getD (t - 15) 0) + L.getD (t - 7) 0 + Sha.sg1 (L.getD (t - 2) 0) = Sha.nextW b L) := by
          unfold Sha.nextW; rw [hlen, if_neg h16]; exact rfl
        have hc4 : wr.cell? ⟨w.heap.size + 1, t, none⟩ = some (.int .u32 0) := hB1.cell (by have := arr64_zero L (by omega); rwa [hlen] at this)
        have HL := Lib.hid hL
        have HLL := Lib.hid hlen
        clear hL hlen
        generalize L.getD (t - 16) 0 = x16 at *
        generalize L.getD (t - 15) 0 = p at *
        generalize L.getD (t - 7) 0 = x7 at *
        generalize L.getD (t - 2) 0 = q at *
        have b15 : (0 : Int) ≤ t - 15 := by omega
        have b2 : (0 : Int) ≤ t - 2 := by omega
        have b16 : (0 : Int) ≤ t - 16 := by omega
        have b7 : (0 : Int) ≤ t - 7 := by omega
        have b15' : (t : Int) - 15 < 64 := by omega
        have b2' : (t : Int) - 2 < 64 := by omega
        have b16' : (t : Int) - 16 < 64 := by omega
        have b7' : (t : Int) - 7 < 64 := by omega
        have hc3 := hB1.free (i := t) (by rw [arr64_length _ (by rw [HLL.out]; omega)]; omega)
        go_wp2
        go_quiet (fail)
        go_wp2_with (first
          | ((with_reducible refine (rotl7 _ _).mono ?_); rintro e w' ⟨rfl, rfl⟩)
          | ((with_reducible refine (rotl18 _ _).mono ?_); rintro e w' ⟨rfl, rfl⟩)
          | ((with_reducible refine (rotl17 _ _).mono ?_); rintro e w' ⟨rfl, rfl⟩)
          | ((with_reducible refine (rotl19 _ _).mono ?_); rintro e w' ⟨rfl, rfl⟩))
        go_region
        go_wp2
        refine ⟨⟨t + 1, by omega, by go_num, (hB0.drewN _).other t _ (by omega), ?_, ?_⟩, by simp [intOf]; omega⟩
        · have h5 := (hB1.drewN (nq + 1)).set t (.int .u32 (Sha.nextW b L).toNat)
          have e : (arr64 L).set t (.int .u32 (Sha.nextW b L).toNat) = arr64 (Sha.sched b (t + 1)) := by
            have := arr64_snoc L (Sha.nextW b L) (by rw [HLL.out]; omega)
            rw [HLL.out] at this
            rw [this, HL.out]; rfl
          rw [e, ← HX.out] at h5
          rw [sum4 x16 p x7 q]
          exact h5
        · exact (below_drewN hb1 _).setCell (by show _ ≤ w.heap.size + 1; omega) _
    · obtain rfl : t = 64 := by omega
      have d64 : decide (((64 : Nat) : Int) < 64) = false := by simp
      have hl64 : (arr64 (Sha.sched b 64)).length = 64 := arr64_length _ (by rw [Sha.sched_length]; omega)
      have hl0 : (arr64 []).length = 64 := arr64_length _ (by simp)
      go_wp2_with (first
        | (refine ldAll aggW64 hB1 hl64 rfl _ rfl rfl ?_)
        | (refine stAll infoW64 hB0 _ hl64 (one_arr _) hl0 rfl rfl _ _ rfl rfl rfl ?_))
      refine bodyPost_ret (v := .agg (arr64 (Sha.sched b 64)).toArray) (res_cell rfl aggW64 (hB0.row _ (hl64.trans hl0.symm)) hl64 _ rfl) rfl ⟨?_, below_row hb1 (Nat.le_refl _) _⟩
      rw [arr64_full _ (Sha.sched_length b 64)]
end Go.Proofs.YtmbldnahcmkpgaaDoor
