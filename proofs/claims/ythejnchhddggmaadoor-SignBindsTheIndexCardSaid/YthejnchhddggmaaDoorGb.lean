
/- More laws of the walk over whatever program. Plain SHA-256 on lists of bytes: the function that the program and its reference both compute. No program in sight. Plain facts about Sha.blocks: what one more piece of a message does. -/
import Derived.Test.YthejnchhddggmaaDoorFa
set_option linter.unusedSimpArgs false
set_option linter.unusedVariables false
/- Libb -/
namespace Go.L
open Go.RowKit
theorem aggT_of {P : Program} {ty n : Nat} (h : (P.underlying ty).map (fun d => match d with | .struct _ | .array _ _ => true | _ => false) = some true) (hi : (P.info? ty).map (·.size) = some n) : AggT P ty n := by
  cases hd : P.underlying ty with
  | none => simp [hd] at h
  | some d => exact ⟨d, hd, by cases d <;> simp [hd] at h ⊢, hi⟩
/-- string(b), as a step of the walk. -/
theorem convStr {P : Program} {w : World} {ops : Array Oper} {rest : List Oper} {o : Oper} {a : Act} {Q : Exit → Act → World → Prop} {src dst e C : Nat}
    (hs : P.underlying src = some (.slice e)) (he : P.underlying e = some (.int .u8)) (hd : P.underlying dst = some .string) {v : Value} (l : List UInt8) {n : Nat}
    (hr : Rd w C v n (l.map fun b => .int .u8 b.toNat)) (hn : n = l.length) (hgd : o.guard = none) (x : Operand) (ho : o.op = .convert src dst x) (hx : a.eval x = v)
    (h : wpList P ops Q rest (a.put o.dst (.string ⟨l.toArray⟩)) w) : wpList P ops Q (o :: rest) a w := by
  subst hn
  refine wpList_plain hgd fun K hK => ?_
  unfold Oper.wp execOp
  simp only [ho, Sem.run_bind, Sem.run_pure, Result.andThen_ok, hx, conv_string hs he hd hr]
  exact hK _ _ h
end Go.L

/- Sha -/
namespace Sha

def rotr (x k : UInt32) : UInt32 := (x >>> k) ||| (x <<< (32 - k))
def kTab : List UInt32 := [
  0x428a2f98, 0x71374491, 0xb5c0fbcf, 0xe9b5dba5, 0x3956c25b, 0x59f111f1, 0x923f82a4, 0xab1c5ed5,
  0xd807aa98, 0x12835b01, 0x243185be, 0x550c7dc3, 0x72be5d74, 0x80deb1fe, 0x9bdc06a7, 0xc19bf174,
  0xe49b69c1, 0xefbe4786, 0x0fc19dc6, 0x240ca1cc, 0x2de92c6f, 0x4a7484aa, 0x5cb0a9dc, 0x76f988da,
  0x983e5152, 0xa831c66d, 0xb00327c8, 0xbf597fc7, 0xc6e00bf3, 0xd5a79147, 0x06ca6351, 0x14292967,
  0x27b70a85, 0x2e1b2138, 0x4d2c6dfc, 0x53380d13, 0x650a7354, 0x766a0abb, 0x81c2c92e, 0x92722c85,
  0xa2bfe8a1, 0xa81a664b, 0xc24b8b70, 0xc76c51a3, 0xd192e819, 0xd6990624, 0xf40e3585, 0x106aa070,
  0x19a4c116, 0x1e376c08, 0x2748774c, 0x34b0bcb5, 0x391c0cb3, 0x4ed8aa4a, 0x5b9cca4f, 0x682e6ff3,
  0x748f82ee, 0x78a5636f, 0x84c87814, 0x8cc70208, 0x90befffa, 0xa4506ceb, 0xbef9a3f7, 0xc67178f2]

def byteW (b : UInt8) : UInt32 := b.toUInt32
/-- Four bytes, the first one the most significant. -/
def be32 (b : List UInt8) (at_ : Nat) : UInt32 :=
  byteW (b.getD at_ 0) <<< 24 ||| byteW (b.getD (at_ + 1) 0) <<< 16 ||| byteW (b.getD (at_ + 2) 0) <<< 8 ||| byteW (b.getD (at_ + 3) 0)
def sg0 (p : UInt32) : UInt32 := rotr p 7 ^^^ rotr p 18 ^^^ (p >>> 3)
def sg1 (q : UInt32) : UInt32 := rotr q 17 ^^^ rotr q 19 ^^^ (q >>> 10)
def nextW (b : List UInt8) (L : List UInt32) : UInt32 :=
  if L.length < 16 then be32 b (4 * L.length)
  else L.getD (L.length - 16) 0 + sg0 (L.getD (L.length - 15) 0) + L.getD (L.length - 7) 0 + sg1 (L.getD (L.length - 2) 0)
def sched (b : List UInt8) : Nat → List UInt32
  | 0 => []
  | n + 1 => sched b n ++ [nextW b (sched b n)]
theorem sched_length (b : List UInt8) : ∀ n, (sched b n).length = n
  | 0 => rfl
  | n + 1 => by simp [sched, sched_length b n]

structure St where
  a : UInt32
  b : UInt32
  c : UInt32
  d : UInt32
  e : UInt32
  f : UInt32
  g : UInt32
  h : UInt32

def bs0 (a : UInt32) : UInt32 := rotr a 2 ^^^ rotr a 13 ^^^ rotr a 22
def bs1 (e : UInt32) : UInt32 := rotr e 6 ^^^ rotr e 11 ^^^ rotr e 25
def ch (e f g : UInt32) : UInt32 := (e &&& f) ^^^ (~~~e &&& g)
def maj (a b c : UInt32) : UInt32 := (a &&& b) ^^^ (a &&& c) ^^^ (b &&& c)
def t1 (s : St) (k w : UInt32) : UInt32 := s.h + bs1 s.e + ch s.e s.f s.g + k + w
def t2 (s : St) : UInt32 := bs0 s.a + maj s.a s.b s.c
def round (s : St) (k w : UInt32) : St :=
  ⟨t1 s k w + t2 s, s.a, s.b, s.c, s.d + t1 s k w, s.e, s.f, s.g⟩
def rounds (W : List UInt32) (s : St) : Nat → St
  | 0 => s
  | n + 1 => round (rounds W s n) (kTab.getD n 0) (W.getD n 0)
def St.add (s v : St) : St := ⟨s.a + v.a, s.b + v.b, s.c + v.c, s.d + v.d, s.e + v.e, s.f + v.f, s.g + v.g, s.h + v.h⟩
def compress (s : St) (b : List UInt8) : St := s.add (rounds (sched b 64) s 64)

def init : St := ⟨0x6a09e667, 0xbb67ae85, 0x3c6ef372, 0xa54ff53a, 0x510e527f, 0x9b05688c, 0x1f83d9ab, 0x5be0cd19⟩

/-- The state behind n whole blocks of m. -/
def blocks (m : List UInt8) : Nat → St
  | 0 => init
  | n + 1 => compress (blocks m n) ((m.drop (64 * n)).take 64)

def be64 (n : Nat) : List UInt8 := (List.range 8).map fun i => UInt8.ofNat (n / 2 ^ (56 - 8 * i))
/-- How many zero bytes the padding has. -/
def zeros (n : Nat) : Nat := (119 - n % 64) % 64
def pad (n : Nat) : List UInt8 := 128 :: (List.replicate (zeros n) 0 ++ be64 (8 * n))
def padded (m : List UInt8) : List UInt8 := m ++ pad m.length
def wordBytes (x : UInt32) : List UInt8 := [UInt8.ofNat (x.toNat / 2 ^ 24), UInt8.ofNat (x.toNat / 2 ^ 16), UInt8.ofNat (x.toNat / 2 ^ 8), UInt8.ofNat x.toNat]
def St.words (s : St) : List UInt32 := [s.a, s.b, s.c, s.d, s.e, s.f, s.g, s.h]
def St.bytes (s : St) : List UInt8 := s.words.flatMap wordBytes
def sum (m : List UInt8) : List UInt8 := (blocks (padded m) ((padded m).length / 64)).bytes

end Sha

/- Shab -/
namespace Sha
theorem blocks_append (m x : List UInt8) : ∀ q, 64 * q ≤ m.length → blocks (m ++ x) q = blocks m q
  | 0, _ => rfl
  | q + 1, h => by
    simp only [blocks]
    rw [blocks_append m x q (by omega)]
    congr 1
    rw [List.drop_append_of_le_length (by omega), List.take_append_of_le_length (by rw [List.length_drop]; omega)]
/-- What the block held before its last bytes were written. -/
def full (m : List UInt8) : Nat → List UInt8
  | 0 => List.replicate 64 0
  | k + 1 => (m.drop (64 * k)).take 64
/-- The block behind n bytes of the message m: fully determined. -/
def Pre (n : Nat) (m blk : List UInt8) : Prop := blk.take (n % 64) = m.drop (64 * (n / 64)) ∧ blk.drop (n % 64) = (full m (n / 64)).drop (n % 64)
theorem full_append (m x : List UInt8) : ∀ q, 64 * q ≤ m.length → full (m ++ x) q = full m q
  | 0, _ => rfl
  | q + 1, h => by
    show ((m ++ x).drop (64 * q)).take 64 = (m.drop (64 * q)).take 64
    rw [List.drop_append_of_le_length (by omega), List.take_append_of_le_length (by simp; omega)]
def blkOf (m : List UInt8) : List UInt8 := m.drop (64 * (m.length / 64)) ++ (full m (m.length / 64)).drop (m.length % 64)
theorem Pre.blk {m blk : List UInt8} (h : Pre m.length m blk) : blk = blkOf m := by
  unfold blkOf
  rw [← List.take_append_drop (m.length % 64) blk, h.1, h.2]
theorem full_length (m : List UInt8) : ∀ q, 64 * q ≤ m.length → (full m q).length = 64
  | 0, _ => rfl
  | q + 1, h => by
    show ((m.drop (64 * q)).take 64).length = 64
    simp; omega
theorem blkOf_length (m : List UInt8) : (blkOf m).length = 64 := by
  unfold blkOf
  rw [List.length_append, List.length_drop, List.length_drop, full_length _ _ (by omega)]; omega
theorem pre_blkOf (m : List UInt8) : Pre m.length m (blkOf m) := by
  unfold blkOf
  have hl : (m.drop (64 * (m.length / 64))).length = m.length % 64 := by rw [List.length_drop]; omega
  refine ⟨?_, ?_⟩
  · rw [List.take_append_of_le_length (by omega), List.take_of_length_le (by omega)]
  · rw [List.drop_append_of_le_length (by omega), List.drop_of_length_le (by omega), List.nil_append]
theorem piece_less (m r : List UInt8) (blk : List UInt8) (n p k : Nat) (hn : n = m.length) (hp : p = n % 64) (hk : p + k < 64) (hkr : k ≤ r.length) (hb : blk.length = 64) (hpre : Pre n m blk) :
    (n + k) / 64 = n / 64 ∧ blocks (m ++ r.take k) ((n + k) / 64) = blocks m (n / 64) ∧
      Pre (n + k) (m ++ r.take k) (blk.take p ++ r.take k ++ blk.drop (p + k)) := by
  have e1 : (n + k) / 64 = n / 64 := by omega
  have e2 : (n + k) % 64 = p + k := by omega
  have hl : (blk.take p ++ r.take k).length = p + k := by simp; omega
  refine ⟨e1, ?_, ?_, ?_⟩
  · rw [e1]; exact blocks_append _ _ _ (by omega)
  · rw [e1, e2, List.drop_append_of_le_length (by omega), ← hpre.1, ← hp]
    rw [← hl, List.take_left]
  · rw [e1, e2, full_append _ _ _ (by omega)]
    rw [← hl, List.drop_left, hl, ← List.drop_drop, hp, hpre.2, List.drop_drop]
theorem piece_full (m r : List UInt8) (blk : List UInt8) (n p k : Nat) (hn : n = m.length) (hp : p = n % 64) (hk : p + k = 64) (hkr : k ≤ r.length) (hb : blk.length = 64) (hpre : Pre n m blk) :
    blocks (m ++ r.take k) ((n + k) / 64) = compress (blocks m (n / 64)) (blk.take p ++ r.take k ++ blk.drop (p + k)) ∧
      Pre (n + k) (m ++ r.take k) (blk.take p ++ r.take k ++ blk.drop (p + k)) := by
  have e1 : (n + k) / 64 = n / 64 + 1 := by omega
  have e2 : (n + k) % 64 = 0 := by omega
  have hd : blk.drop (p + k) = [] := List.drop_of_length_le (by omega)
  have e3 : (m ++ r.take k).drop (64 * (n / 64)) = blk.take p ++ r.take k := by
    rw [List.drop_append_of_le_length (by omega), ← hpre.1, ← hp]
  refine ⟨?_, ?_, ?_⟩
  · rw [e1]
    simp only [blocks]
    rw [blocks_append _ _ _ (by omega), e3, hd, List.append_nil, List.take_of_length_le (by simp; omega)]
  · rw [e1, e2, List.take_zero]
    exact (List.drop_of_length_le (by simp; omega)).symm
  · rw [e1, e2, List.drop_zero, List.drop_zero]
    show _ = ((m ++ r.take k).drop (64 * (n / 64))).take 64
    rw [e3, hd, List.append_nil]
    exact (List.take_of_length_le (l := blk.take p ++ r.take k) (by simp; omega)).symm
theorem bytes_length (s : St) : s.bytes.length = 32 := rfl
theorem bytes_at (s : St) : ∀ k, k < 32 → s.bytes[k]? = some (UInt8.ofNat ((s.words.getD (k / 4) 0).toNat / 2 ^ (24 - 8 * (k % 4))))
  | 0, _ => rfl
  | 1, _ => rfl
  | 2, _ => rfl
  | 3, _ => by show some (UInt8.ofNat (UInt32.toNat _)) = some (UInt8.ofNat (UInt32.toNat _ / 1)); rw [Nat.div_one]; rfl
  | 4, _ => rfl
  | 5, _ => rfl
  | 6, _ => rfl
  | 7, _ => by show some (UInt8.ofNat (UInt32.toNat _)) = some (UInt8.ofNat (UInt32.toNat _ / 1)); rw [Nat.div_one]; rfl
  | 8, _ => rfl
  | 9, _ => rfl
  | 10, _ => rfl
  | 11, _ => by show some (UInt8.ofNat (UInt32.toNat _)) = some (UInt8.ofNat (UInt32.toNat _ / 1)); rw [Nat.div_one]; rfl
  | 12, _ => rfl
  | 13, _ => rfl
  | 14, _ => rfl
  | 15, _ => by show some (UInt8.ofNat (UInt32.toNat _)) = some (UInt8.ofNat (UInt32.toNat _ / 1)); rw [Nat.div_one]; rfl
  | 16, _ => rfl
  | 17, _ => rfl
  | 18, _ => rfl
  | 19, _ => by show some (UInt8.ofNat (UInt32.toNat _)) = some (UInt8.ofNat (UInt32.toNat _ / 1)); rw [Nat.div_one]; rfl
  | 20, _ => rfl
  | 21, _ => rfl
  | 22, _ => rfl
  | 23, _ => by show some (UInt8.ofNat (UInt32.toNat _)) = some (UInt8.ofNat (UInt32.toNat _ / 1)); rw [Nat.div_one]; rfl
  | 24, _ => rfl
  | 25, _ => rfl
  | 26, _ => rfl
  | 27, _ => by show some (UInt8.ofNat (UInt32.toNat _)) = some (UInt8.ofNat (UInt32.toNat _ / 1)); rw [Nat.div_one]; rfl
  | 28, _ => rfl
  | 29, _ => rfl
  | 30, _ => rfl
  | 31, _ => by show some (UInt8.ofNat (UInt32.toNat _)) = some (UInt8.ofNat (UInt32.toNat _ / 1)); rw [Nat.div_one]; rfl
  | k + 32, h => by omega
theorem sum_length (m : List UInt8) : (sum m).length = 32 := rfl
theorem sum_take (m : List UInt8) (k : Nat) (h : k < 32) : (sum m).take (k + 1) = (sum m).take k ++ [UInt8.ofNat (((blocks (padded m) ((padded m).length / 64)).words.getD (k / 4) 0).toNat / 2 ^ (24 - 8 * (k % 4)))] := by
  rw [List.take_add_one]
  congr 1
  unfold sum
  rw [bytes_at _ k h]; rfl
end Sha
