/- More laws of the walk over whatever program. Plain SHA-256 on lists of bytes: the function that the program and its reference both compute. No program in sight. Plain facts about Sha.blocks: what one more piece of a message does. The word functions of SHA-256: RotateLeft32, mix, rotr. hash.schedule returns Sha.sched. -/
import Derived.Test.YtdbebdjnpckfdaaDoorFa
import Derived.Test.YtdbebdjnpckfdaaDoorProg
import Derived.Test.YtdbebdjnpckfdaaDoorGa
import Derived.Deep.QuietTactic
import Derived.BigQuiet
import Derived.StillTailTactics
set_option linter.unusedSimpArgs false
set_option linter.unusedVariables false
/- Libb -/
namespace Go.L
open Go.RowKit
theorem aggT_of {P : Program} {ty n : Nat} (h : (P.underlying ty).map (fun d => match d with | .struct _ | .array _ _ => true | _ => false) = some true) (hi : (P.info? ty).map (·.size) = some n) : AggT P ty n := by
  cases hd : P.underlying ty with
  | none => simp [hd] at h
  | some d => exact ⟨d, hd, by cases d <;> simp [hd] at h ⊢, hi⟩
/-- string(b), as a step of the walk. -/
theorem convStr {P : Program} {w : World} {ops : Array Oper} {rest : List Oper} {o : Oper} {a : Act} {Q : Exit → Act → World → Prop} {src dst e C : Nat}
    (hs : P.underlying src = some (.slice e)) (he : P.underlying e = some (.int .u8)) (hd : P.underlying dst = some .string) {v : Value} (l : List UInt8) {n : Nat}
    (hr : Rd w C v n (l.map fun b => .int .u8 b.toNat)) (hn : n = l.length) (hgd : o.guard = none) (x : Operand) (ho : o.op = .convert src dst x) (hx : a.eval x = v)
    (h : wpList P ops Q rest (a.put o.dst (.string ⟨l.toArray⟩)) w) : wpList P ops Q (o :: rest) a w := by
  subst hn
  refine wpList_plain hgd fun K hK => ?_
  unfold Oper.wp execOp
  simp only [ho, Sem.run_bind, Sem.run_pure, Result.andThen_ok, hx, conv_string hs he hd hr]
  exact hK _ _ h
end Go.L
/- Sha -/
namespace Sha
def rotr (x k : UInt32) : UInt32 := (x >>> k) ||| (x <<< (32 - k))
def kTab : List UInt32 := [
  0x428a2f98, 0x71374491, 0xb5c0fbcf, 0xe9b5dba5, 0x3956c25b, 0x59f111f1, 0x923f82a4, 0xab1c5ed5,
  0xd807aa98, 0x12835b01, 0x243185be, 0x550c7dc3, 0x72be5d74, 0x80deb1fe, 0x9bdc06a7, 0xc19bf174,
  0xe49b69c1, 0xefbe4786, 0x0fc19dc6, 0x240ca1cc, 0x2de92c6f, 0x4a7484aa, 0x5cb0a9dc, 0x76f988da,
  0x983e5152, 0xa831c66d, 0xb00327c8, 0xbf597fc7, 0xc6e00bf3, 0xd5a79147, 0x06ca6351, 0x14292967,
  0x27b70a85, 0x2e1b2138, 0x4d2c6dfc, 0x53380d13, 0x650a7354, 0x766a0abb, 0x81c2c92e, 0x92722c85,
  0xa2bfe8a1, 0xa81a664b, 0xc24b8b70, 0xc76c51a3, 0xd192e819, 0xd6990624, 0xf40e3585, 0x106aa070,
  0x19a4c116, 0x1e376c08, 0x2748774c, 0x34b0bcb5, 0x391c0cb3, 0x4ed8aa4a, 0x5b9cca4f, 0x682e6ff3,
  0x748f82ee, 0x78a5636f, 0x84c87814, 0x8cc70208, 0x90befffa, 0xa4506ceb, 0xbef9a3f7, 0xc67178f2]
def byteW (b : UInt8) : UInt32 := b.toUInt32
/-- Four bytes, the first one the most significant. -/
def be32 (b : List UInt8) (at_ : Nat) : UInt32 :=
  byteW (b.getD at_ 0) <<< 24 ||| byteW (b.getD (at_ + 1) 0) <<< 16 ||| byteW (b.getD (at_ + 2) 0) <<< 8 ||| byteW (b.getD (at_ + 3) 0)
def sg0 (p : UInt32) : UInt32 := rotr p 7 ^^^ rotr p 18 ^^^ (p >>> 3)
def sg1 (q : UInt32) : UInt32 := rotr q 17 ^^^ rotr q 19 ^^^ (q >>> 10)
def nextW (b : List UInt8) (L : List UInt32) : UInt32 :=
  if L.length < 16 then be32 b (4 * L.length)
  else L.getD (L.length - 16) 0 + sg0 (L.getD (L.length - 15) 0) + L.getD (L.length - 7) 0 + sg1 (L.getD (L.length - 2) 0)
def sched (b : List UInt8) : Nat → List UInt32
  | 0 => []
  | n + 1 => sched b n ++ [nextW b (sched b n)]
theorem sched_length (b : List UInt8) : ∀ n, (sched b n).length = n
  | 0 => rfl
  | n + 1 => by simp [sched, sched_length b n]
structure St where
  a : UInt32
  b : UInt32
  c : UInt32
  d : UInt32
  e : UInt32
  f : UInt32
  g : UInt32
  h : UInt32
def bs0 (a : UInt32) : UInt32 := rotr a 2 ^^^ rotr a 13 ^^^ rotr a 22
def bs1 (e : UInt32) : UInt32 := rotr e 6 ^^^ rotr e 11 ^^^ rotr e 25
def ch (e f g : UInt32) : UInt32 := (e &&& f) ^^^ (~~~e &&& g)
def maj (a b c : UInt32) : UInt32 := (a &&& b) ^^^ (a &&& c) ^^^ (b &&& c)
def t1 (s : St) (k w : UInt32) : UInt32 := s.h + bs1 s.e + ch s.e s.f s.g + k + w
def t2 (s : St) : UInt32 := bs0 s.a + maj s.a s.b s.c
def round (s : St) (k w : UInt32) : St :=
  ⟨t1 s k w + t2 s, s.a, s.b, s.c, s.d + t1 s k w, s.e, s.f, s.g⟩
def rounds (W : List UInt32) (s : St) : Nat → St
  | 0 => s
  | n + 1 => round (rounds W s n) (kTab.getD n 0) (W.getD n 0)
def St.add (s v : St) : St := ⟨s.a + v.a, s.b + v.b, s.c + v.c, s.d + v.d, s.e + v.e, s.f + v.f, s.g + v.g, s.h + v.h⟩
def compress (s : St) (b : List UInt8) : St := s.add (rounds (sched b 64) s 64)
def init : St := ⟨0x6a09e667, 0xbb67ae85, 0x3c6ef372, 0xa54ff53a, 0x510e527f, 0x9b05688c, 0x1f83d9ab, 0x5be0cd19⟩
/-- The state behind n whole blocks of m. -/
def blocks (m : List UInt8) : Nat → St
  | 0 => init
  | n + 1 => compress (blocks m n) ((m.drop (64 * n)).take 64)
def be64 (n : Nat) : List UInt8 := (List.range 8).map fun i => UInt8.ofNat (n / 2 ^ (56 - 8 * i))
/-- How many zero bytes the padding has. -/
def zeros (n : Nat) : Nat := (119 - n % 64) % 64
def pad (n : Nat) : List UInt8 := 128 :: (List.replicate (zeros n) 0 ++ be64 (8 * n))
def padded (m : List UInt8) : List UInt8 := m ++ pad m.length
def wordBytes (x : UInt32) : List UInt8 := [UInt8.ofNat (x.toNat / 2 ^ 24), UInt8.ofNat (x.toNat / 2 ^ 16), UInt8.ofNat (x.toNat / 2 ^ 8), UInt8.ofNat x.toNat]
def St.words (s : St) : List UInt32 := [s.a, s.b, s.c, s.d, s.e, s.f, s.g, s.h]
def St.bytes (s : St) : List UInt8 := s.words.flatMap wordBytes
def sum (m : List UInt8) : List UInt8 := (blocks (padded m) ((padded m).length / 64)).bytes
end Sha
/- Shab -/
namespace Sha
theorem blocks_append (m x : List UInt8) : ∀ q, 64 * q ≤ m.length → blocks (m ++ x) q = blocks m q
  | 0, _ => rfl
  | q + 1, h => by
    simp only [blocks]
    rw [blocks_append m x q (by omega)]
    congr 1
    rw [List.drop_append_of_le_length (by omega), List.take_append_of_le_length (by rw [List.length_drop]; omega)]
/-- What the block held before its last bytes were written. -/
def full (m : List UInt8) : Nat → List UInt8
  | 0 => List.replicate 64 0
  | k + 1 => (m.drop (64 * k)).take 64
/-- The block behind n bytes of the message m: fully determined. -/
def Pre (n : Nat) (m blk : List UInt8) : Prop := blk.take (n % 64) = m.drop (64 * (n / 64)) ∧ blk.drop (n % 64) = (full m (n / 64)).drop (n % 64)
theorem full_append (m x : List UInt8) : ∀ q, 64 * q ≤ m.length → full (m ++ x) q = full m q
  | 0, _ => rfl
  | q + 1, h => by
    show ((m ++ x).drop (64 * q)).take 64 = (m.drop (64 * q)).take 64
    rw [List.drop_append_of_le_length (by omega), List.take_append_of_le_length (by simp; omega)]
def blkOf (m : List UInt8) : List UInt8 := m.drop (64 * (m.length / 64)) ++ (full m (m.length / 64)).drop (m.length % 64)
theorem Pre.blk {m blk : List UInt8} (h : Pre m.length m blk) : blk = blkOf m := by
  unfold blkOf
  rw [← List.take_append_drop (m.length % 64) blk, h.1, h.2]
theorem full_length (m : List UInt8) : ∀ q, 64 * q ≤ m.length → (full m q).length = 64
  | 0, _ => rfl
  | q + 1, h => by
    show ((m.drop (64 * q)).take 64).length = 64
    simp; omega
theorem blkOf_length (m : List UInt8) : (blkOf m).length = 64 := by
  unfold blkOf
  rw [List.length_append, List.length_drop, List.length_drop, full_length _ _ (by omega)]; omega
theorem pre_blkOf (m : List UInt8) : Pre m.length m (blkOf m) := by
  unfold blkOf
  have hl : (m.drop (64 * (m.length / 64))).length = m.length % 64 := by rw [List.length_drop]; omega
  refine ⟨?_, ?_⟩
  · rw [List.take_append_of_le_length (by omega), List.take_of_length_le (by omega)]
  · rw [List.drop_append_of_le_length (by omega), List.drop_of_length_le (by omega), List.nil_append]
theorem piece_less (m r : List UInt8) (blk : List UInt8) (n p k : Nat) (hn : n = m.length) (hp : p = n % 64) (hk : p + k < 64) (hkr : k ≤ r.length) (hb : blk.length = 64) (hpre : Pre n m blk) :
    (n + k) / 64 = n / 64 ∧ blocks (m ++ r.take k) ((n + k) / 64) = blocks m (n / 64) ∧
      Pre (n + k) (m ++ r.take k) (blk.take p ++ r.take k ++ blk.drop (p + k)) := by
  have e1 : (n + k) / 64 = n / 64 := by omega
  have e2 : (n + k) % 64 = p + k := by omega
  have hl : (blk.take p ++ r.take k).length = p + k := by simp; omega
  refine ⟨e1, ?_, ?_, ?_⟩
  · rw [e1]; exact blocks_append _ _ _ (by omega)
  · rw [e1, e2, List.drop_append_of_le_length (by omega), ← hpre.1, ← hp]
    rw [← hl, List.take_left]
  · rw [e1, e2, full_append _ _ _ (by omega)]
    rw [← hl, List.drop_left, hl, ← List.drop_drop, hp, hpre.2, List.drop_drop]
theorem piece_full (m r : List UInt8) (blk : List UInt8) (n p k : Nat) (hn : n = m.length) (hp : p = n % 64) (hk : p + k = 64) (hkr : k ≤ r.length) (hb : blk.length = 64) (hpre : Pre n m blk) :
    blocks (m ++ r.take k) ((n + k) / 64) = compress (blocks m (n / 64)) (blk.take p ++ r.take k ++ blk.drop (p + k)) ∧
      Pre (n + k) (m ++ r.take k) (blk.take p ++ r.take k ++ blk.drop (p + k)) := by
  have e1 : (n + k) / 64 = n / 64 + 1 := by omega
  have e2 : (n + k) % 64 = 0 := by omega
  have hd : blk.drop (p + k) = [] := List.drop_of_length_le (by omega)
  have e3 : (m ++ r.take k).drop (64 * (n / 64)) = blk.take p ++ r.take k := by
    rw [List.drop_append_of_le_length (by omega), ← hpre.1, ← hp]
  refine ⟨?_, ?_, ?_⟩
  · rw [e1]
    simp only [blocks]
    rw [blocks_append _ _ _ (by omega), e3, hd, List.append_nil, List.take_of_length_le (by simp; omega)]
  · rw [e1, e2, List.take_zero]
    exact (List.drop_of_length_le (by simp; omega)).symm
  · rw [e1, e2, List.drop_zero, List.drop_zero]
    show _ = ((m ++ r.take k).drop (64 * (n / 64))).take 64
    rw [e3, hd, List.append_nil]
    exact (List.take_of_length_le (l := blk.take p ++ r.take k) (by simp; omega)).symm
theorem bytes_at (s : St) : ∀ k, k < 32 → s.bytes[k]? = some (UInt8.ofNat ((s.words.getD (k / 4) 0).toNat / 2 ^ (24 - 8 * (k % 4))))
  | 0, _ => rfl
  | 1, _ => rfl
  | 2, _ => rfl
  | 3, _ => by show some (UInt8.ofNat (UInt32.toNat _)) = some (UInt8.ofNat (UInt32.toNat _ / 1)); rw [Nat.div_one]; rfl
  | 4, _ => rfl
  | 5, _ => rfl
  | 6, _ => rfl
  | 7, _ => by show some (UInt8.ofNat (UInt32.toNat _)) = some (UInt8.ofNat (UInt32.toNat _ / 1)); rw [Nat.div_one]; rfl
  | 8, _ => rfl
  | 9, _ => rfl
  | 10, _ => rfl
  | 11, _ => by show some (UInt8.ofNat (UInt32.toNat _)) = some (UInt8.ofNat (UInt32.toNat _ / 1)); rw [Nat.div_one]; rfl
  | 12, _ => rfl
  | 13, _ => rfl
  | 14, _ => rfl
  | 15, _ => by show some (UInt8.ofNat (UInt32.toNat _)) = some (UInt8.ofNat (UInt32.toNat _ / 1)); rw [Nat.div_one]; rfl
  | 16, _ => rfl
  | 17, _ => rfl
  | 18, _ => rfl
  | 19, _ => by show some (UInt8.ofNat (UInt32.toNat _)) = some (UInt8.ofNat (UInt32.toNat _ / 1)); rw [Nat.div_one]; rfl
  | 20, _ => rfl
  | 21, _ => rfl
  | 22, _ => rfl
  | 23, _ => by show some (UInt8.ofNat (UInt32.toNat _)) = some (UInt8.ofNat (UInt32.toNat _ / 1)); rw [Nat.div_one]; rfl
  | 24, _ => rfl
  | 25, _ => rfl
  | 26, _ => rfl
  | 27, _ => by show some (UInt8.ofNat (UInt32.toNat _)) = some (UInt8.ofNat (UInt32.toNat _ / 1)); rw [Nat.div_one]; rfl
  | 28, _ => rfl
  | 29, _ => rfl
  | 30, _ => rfl
  | 31, _ => by show some (UInt8.ofNat (UInt32.toNat _)) = some (UInt8.ofNat (UInt32.toNat _ / 1)); rw [Nat.div_one]; rfl
  | k + 32, h => by omega
theorem sum_length (m : List UInt8) : (sum m).length = 32 := rfl
theorem sum_take (m : List UInt8) (k : Nat) (h : k < 32) : (sum m).take (k + 1) = (sum m).take k ++ [UInt8.ofNat (((blocks (padded m) ((padded m).length / 64)).words.getD (k / 4) 0).toNat / 2 ^ (24 - 8 * (k % 4)))] := by
  rw [List.take_add_one]
  congr 1
  unfold sum
  rw [bytes_at _ k h]; rfl
end Sha

namespace Go.Proofs.YtdbebdjnpckfdaaDoor
open Go.RowKit Go.U
theorem rot_mask : ∀ k : Fin 32, bits BinOp.and IntKind.u64 (IntKind.u64.wrap (-((k.val : Nat) : Int))) 31 = if k.val = 0 then 0 else 32 - ((k.val : Nat) : Int) := by decide
theorem rot_fold (x : UInt32) (k : Nat) (h0 : 0 < k) (hk : k < 32) :
    bits BinOp.or IntKind.u32 (x.toNat * 2 ^ (32 - k) % 4294967296) (x.toNat / 2 ^ (32 - (32 - k))) = ((Sha.rotr x (UInt32.ofNat k)).toNat : Int) := by
  have e : 32 - (32 - k) = k := by omega
  rw [e, shl32 x (32 - k) (by omega), shr32 x k hk, or32]
  have e2 : UInt32.ofNat (32 - k) = 32 - UInt32.ofNat k := by
    apply UInt32.toNat_inj.1
    rw [UInt32.toNat_sub_of_le]
    · simp [UInt32.toNat_ofNat']; omega
    · rw [UInt32.le_iff_toNat_le]; simp [UInt32.toNat_ofNat']; omega
  rw [e2]
  unfold Sha.rotr
  rw [UInt32.or_comm]
theorem ret_int {k : IntKind} {a b : Int} (h : a = b) : Ending.returned (.int k a) = .returned (.int k b) := by rw [h]
set_option maxHeartbeats 400000 in
theorem rotl_any (x : UInt32) (k : Nat) (w : World) (h0 : 0 < k) (hk : k < 32) :
    Calls Tryd.prog 103 #[.int .u32 x.toNat, .int .i64 (-k)] w fun e w' => e = .returned (.int .u32 (Sha.rotr x (UInt32.ofNat k)).toNat) ∧ w = w' := by
  have h := rot_mask ⟨k, hk⟩
  simp only [if_neg (show ¬ k = 0 by omega)] at h
  have hx : (x.toNat : Int) < 4294967296 := by have := x.toNat_lt; omega
  have hx : 0 ≤ (x.toNat : Int) := by omega
  have h1 : (0 : Int) ≤ 32 - k := by omega
  have h2 : 32 - (k : Int) ≤ 32 := by omega
  go_enter Tryd.func103, Tryd.ntmps103
  go_wp2
  go_ret
  exact ⟨ret_int (rot_fold x k h0 hk), rfl⟩
set_option maxHeartbeats 400000 in
theorem mix_any (x : UInt32) (i j k : Nat) (w : World) (hi : 0 < i ∧ i < 32) (hj : 0 < j ∧ j < 32) (hk : 0 < k ∧ k < 32) :
    Calls Tryd.prog 102 #[.int .u32 x.toNat, .int .i64 i, .int .i64 j, .int .i64 k] w fun e w' =>
      e = .returned (.int .u32 (Sha.rotr x (UInt32.ofNat i) ^^^ Sha.rotr x (UInt32.ofNat j) ^^^ Sha.rotr x (UInt32.ofNat k)).toNat) ∧ w = w' := by
  obtain ⟨hi0, hi1⟩ := hi
  obtain ⟨hj0, hj1⟩ := hj
  obtain ⟨hk0, hk1⟩ := hk
  go_enter Tryd.func102, Tryd.ntmps102
  go_wp2_with fail
  ((with_reducible refine (rotl_any x i w (by omega) (by omega)).mono ?_); rintro e w' ⟨rfl, rfl⟩)
  go_wp2_with fail
  ((with_reducible refine (rotl_any x j w (by omega) (by omega)).mono ?_); rintro e w' ⟨rfl, rfl⟩)
  go_wp2_with fail
  ((with_reducible refine (rotl_any x k w (by omega) (by omega)).mono ?_); rintro e w' ⟨rfl, rfl⟩)
  go_wp2_with fail
  go_ret
  exact ⟨ret_int (by rw [xor32, xor32]), rfl⟩
theorem rotl7 (x : UInt32) (w : World) : Calls Tryd.prog 103 #[.int .u32 x.toNat, .int .i64 (-7)] w fun e w' => e = .returned (.int .u32 (Sha.rotr x 7).toNat) ∧ w = w' :=
  rotl_any x 7 w (by omega) (by omega)
theorem rotl18 (x : UInt32) (w : World) : Calls Tryd.prog 103 #[.int .u32 x.toNat, .int .i64 (-18)] w fun e w' => e = .returned (.int .u32 (Sha.rotr x 18).toNat) ∧ w = w' :=
  rotl_any x 18 w (by omega) (by omega)
theorem rotl17 (x : UInt32) (w : World) : Calls Tryd.prog 103 #[.int .u32 x.toNat, .int .i64 (-17)] w fun e w' => e = .returned (.int .u32 (Sha.rotr x 17).toNat) ∧ w = w' :=
  rotl_any x 17 w (by omega) (by omega)
theorem rotl19 (x : UInt32) (w : World) : Calls Tryd.prog 103 #[.int .u32 x.toNat, .int .i64 (-19)] w fun e w' => e = .returned (.int .u32 (Sha.rotr x 19).toNat) ∧ w = w' :=
  rotl_any x 19 w (by omega) (by omega)
theorem mix6 (x : UInt32) (w : World) : Calls Tryd.prog 102 #[.int .u32 x.toNat, .int .i64 6, .int .i64 11, .int .i64 25] w fun e w' => e = .returned (.int .u32 (Sha.bs1 x).toNat) ∧ w = w' :=
  mix_any x 6 11 25 w (by omega) (by omega) (by omega)
theorem mix2 (x : UInt32) (w : World) : Calls Tryd.prog 102 #[.int .u32 x.toNat, .int .i64 2, .int .i64 13, .int .i64 22] w fun e w' => e = .returned (.int .u32 (Sha.bs0 x).toNat) ∧ w = w' :=
  mix_any x 2 13 22 w (by omega) (by omega) (by omega)
end Go.Proofs.YtdbebdjnpckfdaaDoor

namespace Go.Proofs.YtdbebdjnpckfdaaDoor
open Go.RowKit Go.U Go.L
def u32s (l : List UInt32) : List Value := l.map fun x => .int .u32 x.toNat
/-- The words that are there, then zeros. -/
def arr64 (l : List UInt32) : List Value := u32s (l ++ List.replicate (64 - l.length) 0)
theorem arr64_length (l : List UInt32) (h : l.length ≤ 64) : (arr64 l).length = 64 := by simp [arr64, u32s]; omega
/-- The bytes of a word that have been read. -/
def part (b : List UInt8) (p : Nat) : Nat → UInt32
  | 0 => 0
  | k + 1 => (part b p k <<< 8) ||| Sha.byteW (b.getD (p + k) 0)
theorem arr64_at (l : List UInt32) (i : Nat) (h : i < l.length) : (arr64 l)[i]? = some (.int .u32 (l.getD i 0).toNat) := by
  unfold arr64 u32s
  rw [List.map_append, List.getElem?_append_left (by simpa using h)]
  simp [h]
theorem arr64_zero (l : List UInt32) (h : l.length < 64) : (arr64 l)[l.length]? = some (.int .u32 0) := by
  unfold arr64 u32s
  rw [List.map_append, List.getElem?_append_right (by simp), List.length_map, Nat.sub_self]
  obtain ⟨n, hn⟩ : ∃ n, 64 - l.length = n + 1 := ⟨64 - l.length - 1, by omega⟩
  rw [hn]; rfl
theorem arr64_snoc (l : List UInt32) (x : UInt32) (h : l.length < 64) : (arr64 l).set l.length (.int .u32 x.toNat) = arr64 (l ++ [x]) := by
  unfold arr64 u32s
  obtain ⟨n, hn⟩ : ∃ n, 64 - l.length = n + 1 := ⟨64 - l.length - 1, by omega⟩
  have e : 64 - (l ++ [x]).length = n := by simp; omega
  rw [hn, e, List.map_append, List.map_append, List.map_append]
  rw [List.set_append_right _ _ (by simp), List.length_map, Nat.sub_self, List.replicate_succ]
  simp
theorem byteW_nat (b : UInt8) : ((Sha.byteW b).toNat : Int) = b.toNat := by simp [Sha.byteW]
theorem part_step (p : UInt32) (b : UInt8) : bits BinOp.or IntKind.u32 (p.toNat * 256 % 4294967296) b.toNat = (((p <<< 8) ||| Sha.byteW b).toNat : Int) := by
  have h := shl32 p 8 (by omega)
  rw [show ((2 : Int) ^ 8) = 256 from rfl] at h
  rw [h, ← byteW_nat, or32]; rfl
theorem part_four (b : List UInt8) (p : Nat) : part b p 4 = Sha.be32 b p := by
  unfold Sha.be32
  simp only [part, Nat.add_zero]
  generalize Sha.byteW (b.getD p 0) = x0
  generalize Sha.byteW (b.getD (p + 1) 0) = x1
  generalize Sha.byteW (b.getD (p + 2) 0) = x2
  generalize Sha.byteW (b.getD (p + 3) 0) = x3
  apply UInt32.toBitVec_inj.1
  simp [UInt32.toBitVec_shiftLeft]
  rw [BitVec.shiftLeft_or_distrib, BitVec.shiftLeft_or_distrib, BitVec.shiftLeft_or_distrib, ← BitVec.shiftLeft_add, ← BitVec.shiftLeft_add, ← BitVec.shiftLeft_add]
theorem sched_low (b : List UInt8) (t : Nat) (h : t < 16) : Sha.sched b t ++ [Sha.be32 b (4 * t)] = Sha.sched b (t + 1) := by
  simp only [Sha.sched, Sha.nextW, Sha.sched_length, if_pos h]
theorem aggW64 : AggT Tryd.prog 164 64 := ⟨.array 64 133, by kernel_rfl, rfl, by kernel_rfl⟩
theorem infoW64 : (Tryd.prog.info? 164).map (·.size) = some 64 := by kernel_rfl
theorem one_u32s (l : List UInt32) : ∀ u ∈ u32s l, u.oneCell' = true := by
  intro u hu; obtain ⟨_, _, rfl⟩ := List.mem_map.1 hu; rfl
theorem one_arr (l : List UInt32) : ∀ u ∈ arr64 l, u.oneCell' = true := one_u32s _
theorem arr64_full (l : List UInt32) (h : l.length = 64) : arr64 l = u32s l := by simp [arr64, h]
theorem below_drewN {B : Nat} {a w : World} (h : Below B a w) (n : Nat) : Below B a (w.drewN n) := ⟨h.os, h.tape, h.output, h.size, h.block⟩
theorem sum4 (x p y q : UInt32) : ((x.toNat : Int) + bits BinOp.xor IntKind.u32 (bits BinOp.xor IntKind.u32 (Sha.rotr p 7).toNat (Sha.rotr p 18).toNat) (p.toNat / 8) + y.toNat +
    bits BinOp.xor IntKind.u32 (bits BinOp.xor IntKind.u32 (Sha.rotr q 17).toNat (Sha.rotr q 19).toNat) (q.toNat / 1024)) % 4294967296 = ((x + Sha.sg0 p + y + Sha.sg1 q).toNat : Int) := by
  have h3 := shr32 p 3 (by omega)
  have h10 := shr32 q 10 (by omega)
  rw [show ((2 : Int) ^ 3) = 8 from rfl] at h3
  rw [show ((2 : Int) ^ 10) = 1024 from rfl] at h10
  rw [h3, h10, xor32, xor32, xor32, xor32, ← add32, ← add32, ← add32]
  simp only [Sha.sg0, Sha.sg1]
  have e1 : UInt32.ofNat 3 = 3 := rfl
  have e2 : UInt32.ofNat 10 = 10 := rfl
  rw [e1, e2]
  omega
theorem set_same {cs : List Value} {i : Nat} {v : Value} (h : cs[i]? = some v) : cs.set i v = cs := by
  apply List.ext_getElem?
  intro j
  by_cases hj : i = j
  · subst hj
    rw [List.getElem?_set_self (by rcases Nat.lt_or_ge i cs.length with h1 | h1; exact h1; rw [List.getElem?_eq_none h1] at h; cases h), h]
  · rw [List.getElem?_set_ne hj]
set_option maxHeartbeats 2000000 in
theorem schedule_any (b : List UInt8) (g off cap : Nat) (w : World) (hb : b.length = 64) (hcap : 64 ≤ cap ∧ cap ≤ 1099511627776) (hg : g < w.heap.size)
    (hc : ∀ j, j < 64 → w.cell? ⟨g, off + j, none⟩ = some (.int .u8 ((b.getD j 0).toNat : Nat))) :
    Calls Tryd.prog 101 #[.slice (some ⟨g, off, none⟩) 64 cap] w fun e w' => e = .returned (.agg (u32s (Sha.sched b 64)).toArray) ∧ Below w.heap.size w w' := by
  obtain ⟨hcap1, hcap2⟩ := hcap
  have HC := Lib.hid hc
  clear hc
  go_enter Tryd.func101, Tryd.ntmps101
  go_wp2
  go_loopw [11] (fun i wr => ∃ t : Nat, t ≤ 64 ∧ i = .int .i64 t ∧ Blk wr w.heap.size (arr64 []) 164 ∧ Blk wr (w.heap.size + 1) (arr64 (Sha.sched b t)) 164 ∧ Below w.heap.size w wr) (fun i _ => (64 - intOf i).toNat)
  case atStart =>
    refine ⟨0, by omega, rfl, (Blk.new _ (arr64 []) _).alloc _, ?_, ((Below.refl _ _).alloc (Nat.le_refl _) _).alloc (by simp) _⟩
    have := Blk.new (w.alloc (.cells (arr64 []).toArray 164)) (arr64 []) 164
    simp only [World.size_alloc] at this
    exact this
  case round =>
    obtain ⟨t, ht, rfl, hB0, hB1, hb1⟩ := hrel
    have hsz := hb1.size
    by_cases h64 : t < 64
    · by_cases h16 : t < 16
      · have hcells : ∀ j, j < 4 → wr.cell? ⟨g, off + 4 * t + j, none⟩ = some (.int .u8 ((b.getD (4 * t + j) 0).toNat : Nat)) := by
          intro j hj
          have := HC.out (4 * t + j) (by omega)
          rw [← Nat.add_assoc] at this
          exact (hb1.cell (p := ⟨g, off + 4 * t + j, none⟩) hg).trans this
        have HCS := Lib.hid hcells
        clear hcells
        have d64 : decide ((t : Int) < 64) = true := by simp; omega
        have d16 : decide ((t : Int) < 16) = true := by simp; omega
        have hlen := Sha.sched_length b t
        have HL := Lib.hid hlen
        clear hlen
        obtain ⟨wo, rfl⟩ : ∃ wo : World, wo = wr := ⟨_, rfl⟩
        go_wp2
        go_loopw [24] (fun i wr => ∃ k : Nat, k ≤ 4 ∧ i = .int .i64 k ∧ Blk wr w.heap.size (arr64 []) 164 ∧ Blk wr (w.heap.size + 1) ((arr64 (Sha.sched b t)).set t (.int .u32 (part b (4 * t) k).toNat)) 164 ∧ Below w.heap.size w wr ∧ wr.heap.size = wo.heap.size) (fun i _ => (4 - intOf i).toNat)
        case atStart =>
          refine ⟨0, by omega, rfl, hB0, ?_, hb1, rfl⟩
          have := arr64_zero (Sha.sched b t) (by rw [HL.out]; omega)
          rw [HL.out] at this
          have e : part b (4 * t) 0 = 0 := rfl
          rw [e]
          have e2 : Value.int .u32 ((0 : UInt32).toNat : Int) = .int .u32 0 := rfl
          rw [e2, set_same this]; exact hB1
        case round =>
          obtain ⟨k, hk, rfl, hC0, hC1, hb2, hsz2⟩ := hrel
          by_cases hk4 : k < 4
          · obtain ⟨bv, hbv⟩ : ∃ bv, bv = b.getD (4 * t + k) 0 := ⟨_, rfl⟩
            have hc1 : wr.cell? ⟨g, off + 4 * t + k, none⟩ = some (.int .u8 (bv.toNat : Nat)) := by
              rw [hbv]
              exact ((hb2.cell (p := ⟨g, off + 4 * t + k, none⟩) hg).trans (hb1.cell (p := ⟨g, off + 4 * t + k, none⟩) hg).symm).trans (HCS.out k hk4)
            have HBV := Lib.hid hbv
            clear hbv
            have hbl : (bv.toNat : Int) ≤ 255 := by have := bv.toNat_lt; omega
            have hbl0 : 0 ≤ (bv.toNat : Int) := by omega
            have hc2 : wr.cell? ⟨w.heap.size + 1, t, none⟩ = some (.int .u32 (part b (4 * t) k).toNat) := hC1.cell (by rw [List.getElem?_set_self (by rw [arr64_length _ (by rw [HL.out]; omega)]; omega)])
            have hc3 := hC1.free (i := t) (by rw [List.length_set, arr64_length _ (by rw [HL.out]; omega)]; omega)
            go_wp2
            refine ⟨⟨k + 1, by omega, by go_num, hC0.other t _ (by omega), ?_, hb2.setCell (by show _ ≤ w.heap.size + 1; omega) _, by simpa using hsz2⟩, by simp [intOf]; omega⟩
            have := hC1.set t (.int .u32 (part b (4 * t) (k + 1)).toNat)
            rw [List.set_set] at this
            rw [part_step, HBV.out]
            exact this
          · obtain rfl : k = 4 := by omega
            have hend : (arr64 (Sha.sched b t)).set t (.int .u32 (part b (4 * t) 4).toNat) = arr64 (Sha.sched b (t + 1)) := by
              have := arr64_snoc (Sha.sched b t) (part b (4 * t) 4) (by rw [HL.out]; omega)
              rw [HL.out] at this
              rw [this, part_four, sched_low b t h16]
            rw [hend] at hC1
            clear hend
            go_wp2
            exact ⟨⟨t + 1, by omega, by go_num, hC0, hC1, hb2⟩, by simp [intOf]; omega⟩
      · have d64 : decide ((t : Int) < 64) = true := by simp; omega
        have d16 : decide ((t : Int) < 16) = false := by simp; omega
        obtain ⟨L, hL⟩ : ∃ L, L = Sha.sched b t := ⟨_, rfl⟩
        have hlen : L.length = t := by rw [hL]; exact Sha.sched_length b t
        rw [← hL] at hB1
        have h15 : wr.cell? ⟨w.heap.size + 1, t - 15, none⟩ = some (.int .u32 (L.getD (t - 15) 0).toNat) := hB1.cell (arr64_at L _ (by omega))
        have h2 : wr.cell? ⟨w.heap.size + 1, t - 2, none⟩ = some (.int .u32 (L.getD (t - 2) 0).toNat) := hB1.cell (arr64_at L _ (by omega))
        have h16' : wr.cell? ⟨w.heap.size + 1, t - 16, none⟩ = some (.int .u32 (L.getD (t - 16) 0).toNat) := hB1.cell (arr64_at L _ (by omega))
        have h7 : wr.cell? ⟨w.heap.size + 1, t - 7, none⟩ = some (.int .u32 (L.getD (t - 7) 0).toNat) := hB1.cell (arr64_at L _ (by omega))
        have HX : Hid (L.getD (t - 16) 0 + Sha.sg0 (L.getD (t - 15) 0) + L.getD (t - 7) 0 + Sha.sg1 (L.getD (t - 2) 0) = Sha.nextW b L) := by
          unfold Sha.nextW; rw [hlen, if_neg h16]; exact rfl
        have hc4 : wr.cell? ⟨w.heap.size + 1, t, none⟩ = some (.int .u32 0) := hB1.cell (by have := arr64_zero L (by omega); rwa [hlen] at this)
        have HL := Lib.hid hL
        have HLL := Lib.hid hlen
        clear hL hlen
        generalize L.getD (t - 16) 0 = x16 at *
        generalize L.getD (t - 15) 0 = p at *
        generalize L.getD (t - 7) 0 = x7 at *
        generalize L.getD (t - 2) 0 = q at *
        have b15 : (0 : Int) ≤ t - 15 := by omega
        have b2 : (0 : Int) ≤ t - 2 := by omega
        have b16 : (0 : Int) ≤ t - 16 := by omega
        have b7 : (0 : Int) ≤ t - 7 := by omega
        have b15' : (t : Int) - 15 < 64 := by omega
        have b2' : (t : Int) - 2 < 64 := by omega
        have b16' : (t : Int) - 16 < 64 := by omega
        have b7' : (t : Int) - 7 < 64 := by omega
        have hc3 := hB1.free (i := t) (by rw [arr64_length _ (by rw [HLL.out]; omega)]; omega)
        go_wp2
        go_quiet (fail)
        go_wp2_with (first
          | ((with_reducible refine (rotl7 _ _).mono ?_); rintro e w' ⟨rfl, rfl⟩)
          | ((with_reducible refine (rotl18 _ _).mono ?_); rintro e w' ⟨rfl, rfl⟩)
          | ((with_reducible refine (rotl17 _ _).mono ?_); rintro e w' ⟨rfl, rfl⟩)
          | ((with_reducible refine (rotl19 _ _).mono ?_); rintro e w' ⟨rfl, rfl⟩))
        go_region
        go_wp2
        refine ⟨⟨t + 1, by omega, by go_num, (hB0.drewN _).other t _ (by omega), ?_, ?_⟩, by simp [intOf]; omega⟩
        · have h5 := (hB1.drewN (nq + 1)).set t (.int .u32 (Sha.nextW b L).toNat)
          have e : (arr64 L).set t (.int .u32 (Sha.nextW b L).toNat) = arr64 (Sha.sched b (t + 1)) := by
            have := arr64_snoc L (Sha.nextW b L) (by rw [HLL.out]; omega)
            rw [HLL.out] at this
            rw [this, HL.out]; rfl
          rw [e, ← HX.out] at h5
          rw [sum4 x16 p x7 q]
          exact h5
        · exact (below_drewN hb1 _).setCell (by show _ ≤ w.heap.size + 1; omega) _
    · obtain rfl : t = 64 := by omega
      have d64 : decide (((64 : Nat) : Int) < 64) = false := by simp
      have hl64 : (arr64 (Sha.sched b 64)).length = 64 := arr64_length _ (by rw [Sha.sched_length]; omega)
      have hl0 : (arr64 []).length = 64 := arr64_length _ (by simp)
      go_wp2_with (first
        | (refine ldAll aggW64 hB1 hl64 rfl _ rfl rfl ?_)
        | (refine stAll infoW64 hB0 _ hl64 (one_arr _) hl0 rfl rfl _ _ rfl rfl rfl ?_))
      refine bodyPost_ret (v := .agg (arr64 (Sha.sched b 64)).toArray) (res_cell rfl aggW64 (hB0.row _ (hl64.trans hl0.symm)) hl64 _ rfl) rfl ⟨?_, below_row hb1 (Nat.le_refl _) _⟩
      rw [arr64_full _ (Sha.sched_length b 64)]
end Go.Proofs.YtdbebdjnpckfdaaDoor
