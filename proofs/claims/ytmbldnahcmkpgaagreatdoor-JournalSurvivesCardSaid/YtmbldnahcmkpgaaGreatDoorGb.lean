/- The plain law of disks: what each method does, in lists. No program in sight. More laws of the walk over whatever program. Plain SHA-256 on lists of bytes: the function that the program and its reference both compute. No program in sight. Plain facts about Sha.blocks: what one more piece of a message does. -/
import Derived.Test.YtmbldnahcmkpgaaGreatDoorFe
import Derived.Test.YtmbldnahcmkpgaaGreatDoorFa
set_option linter.unusedSimpArgs false
set_option linter.unusedVariables false
namespace Go.Dk
open Go.V (mFind mSet mDel)
abbrev Bs:=List UInt8
abbrev PM:=List (Int × Bs)
abbrev WM:=List (Int × Bool)
structure Disk where
  B : List Bs
  P : PM
  W : WM
  off : Bool
  left : Int
def bad (n : Nat) (i : Int) : Prop:=i < 0 ∨ (n : Int) ≤ i
instance (n : Nat) (i : Int) : Decidable (bad n i):=by unfold bad;infer_instance
def check (D : Disk) (i : Int) : Int:=if D.off = true then 20 else if bad D.B.length i then 1 else 0
def step (D : Disk) : Disk × Int:=if D.left = 0 then ({ D with off:=true },20) else if 0 < D.left then ({ D with left:=D.left - 1 },0) else (D,0)
def write (D : Disk) (i : Int) (s : Bs) : Disk × Int :=
  if check D i ≠ 0 then (D,check D i) else if s.length ≠ 64 then (D,1) else if (step D).2 ≠ 0 then step D else ({ (step D).1 with P:=mSet (step D).1.P i s },0)
def tear (m : Nat) (x old : Bs) : Bs:=x.take m ++ old.drop m
def upto (p : Int) : Nat:=(max 0 (min p 64)).toNat
def isW (W : WM) (i : Int) : Bool:=(mFind W i).getD false
def sortI (l : List Int) : List Int:=l.mergeSort (fun x y=>decide (x ≤ y))
def pending (D : Disk) : List Int:=sortI (D.P.map (·.1))
def pickAt (picks : List Int) (k : Nat) : Int:=if k < picks.length then picks.getD k 0 else 64
def flip (b : Bs) (k : Nat) : Bs:=b.set (k / 8) (b.getD (k / 8) 0 ^^^ UInt8.ofNat (2 ^ (k % 8)))
def rotBad (n : Nat) (i bit : Int) : Prop:=bad n i ∨ bit < 0 ∨ 512 ≤ bit
instance (n : Nat) (i bit : Int) : Decidable (rotBad n i bit):=by unfold rotBad;infer_instance
structure WF (D : Disk) : Prop where
  n0 : 0 < D.B.length
  n1 : D.B.length ≤ 4096
  b64 : ∀ b ∈ D.B,b.length = 64
  p64 : ∀ q ∈ D.P,q.2.length = 64
  pin : ∀ q ∈ D.P,¬ bad D.B.length q.1
  pnd : (D.P.map (·.1)).Nodup
  win : ∀ q ∈ D.W,¬ bad D.B.length q.1
  wnd : (D.W.map (·.1)).Nodup
  wt : ∀ q ∈ D.W,q.2 = true
  l64 : -9223372036854775808 ≤ D.left∧D.left ≤ 9223372036854775807
section
variable {κ ν : Type} [DecidableEq κ]
theorem mFind_mem {l : List (κ × ν)} {k : κ} {v : ν} (h : mFind l k = some v) : (k,v) ∈ l:=by
  induction l with
  | nil=>cases h
  | cons p r ih =>
    rw [mFind] at h
    split at h
    · rename_i e;cases h;rw [← e];exact List.mem_cons_self
    · exact List.mem_cons_of_mem _ (ih h)
theorem mFind_none {l : List (κ × ν)} {k : κ} : mFind l k = none ↔ k ∉ l.map (·.1):=by
  induction l with
  | nil=>simp [mFind]
  | cons p r ih =>
    rw [mFind,List.map_cons,List.mem_cons]
    by_cases h : p.1 = k
    · simp [h]
    · simp only [h,if_false,ih,not_or]
      exact ⟨fun q=>⟨fun e=>h e.symm,q⟩,fun q=>q.2⟩
theorem mFind_some_of {l : List (κ × ν)} {k : κ} (h : k ∈ l.map (·.1)) : ∃ v,mFind l k = some v:=by
  cases hf : mFind l k with
  | none=>exact absurd h (mFind_none.1 hf)
  | some v=>exact ⟨v,rfl⟩
theorem mFind_mSet {l : List (κ × ν)} {k k' : κ} {v : ν} : mFind (mSet l k v) k' = if k = k' then some v else mFind l k':=by
  induction l with
  | nil=>rw [mSet,mFind];rfl
  | cons p r ih =>
    rw [mSet]
    by_cases h : p.1 = k
    · rw [if_pos h,mFind,mFind]
      by_cases h2 : k = k'
      · simp [h2]
      · simp only [h2,if_false];rw [h];simp only [h2,if_false]
    · rw [if_neg h,mFind,mFind,ih]
      by_cases h2 : k = k'
      · subst h2;simp [h]
      · simp [h2]
theorem mSet_keys {l : List (κ × ν)} {k : κ} {v : ν} : ∀ x,x ∈ (mSet l k v).map (·.1) ↔ x = k ∨ x ∈ l.map (·.1):=by
  induction l with
  | nil=>intro x;simp [mSet]
  | cons p r ih =>
    intro x
    rw [mSet]
    split
    · rename_i h;simp only [List.map_cons,List.mem_cons,h];constructor
      · rintro (h1 | h1);exact .inl h1;exact .inr (.inr h1)
      · rintro (h1 | h1 | h1);exact .inl h1;exact .inl h1;exact .inr h1
    · simp only [List.map_cons,List.mem_cons,ih x]
      constructor
      · rintro (h1 | h1 | h1);exact .inr (.inl h1);exact .inl h1;exact .inr (.inr h1)
      · rintro (h1 | h1 | h1);exact .inr (.inl h1);exact .inl h1;exact .inr (.inr h1)
theorem mSet_nodup {l : List (κ × ν)} {k : κ} {v : ν} (h : (l.map (·.1)).Nodup) : ((mSet l k v).map (·.1)).Nodup:=by
  induction l with
  | nil=>simp [mSet]
  | cons p r ih =>
    rw [List.map_cons,List.nodup_cons] at h
    rw [mSet]
    split
    · rename_i e;rw [List.map_cons,List.nodup_cons];exact ⟨by rw [← e];exact h.1,h.2⟩
    · rename_i e
      rw [List.map_cons,List.nodup_cons]
      refine ⟨fun hm=>?_,ih h.2⟩
      rcases (mSet_keys _).1 hm with h1 | h1
      · exact e h1
      · exact h.1 h1
theorem mSet_mem {l : List (κ × ν)} {k : κ} {v : ν} : ∀ q ∈ mSet l k v,q = (k,v) ∨ q ∈ l:=by
  induction l with
  | nil=>intro q hq;rw [mSet] at hq;exact .inl (List.mem_singleton.1 hq)
  | cons p r ih =>
    intro q hq
    rw [mSet] at hq
    split at hq
    · rcases List.mem_cons.1 hq with h | h
      · exact .inl h
      · exact .inr (List.mem_cons_of_mem _ h)
    · rcases List.mem_cons.1 hq with h | h
      · exact .inr (by rw [h];exact List.mem_cons_self)
      · rcases ih q h with h | h
        · exact .inl h
        · exact .inr (List.mem_cons_of_mem _ h)
theorem mDel_sub {l : List (κ × ν)} {k : κ} : (mDel l k).Sublist l:=by
  induction l with
  | nil=>exact List.Sublist.refl _
  | cons p r ih =>
    rw [mDel]
    split
    · exact List.sublist_cons_self _ _
    · exact ih.cons_cons _
theorem mDel_nodup {l : List (κ × ν)} {k : κ} (h : (l.map (·.1)).Nodup) : ((mDel l k).map (·.1)).Nodup:=(mDel_sub.map _).nodup h
theorem mFind_mDel {l : List (κ × ν)} {k k' : κ} (h : (l.map (·.1)).Nodup) : mFind (mDel l k) k' = if k = k' then none else mFind l k':=by
  induction l with
  | nil=>simp [mDel,mFind]
  | cons p r ih =>
    rw [List.map_cons,List.nodup_cons] at h
    rw [mDel]
    by_cases h1 : p.1 = k
    · rw [if_pos h1,mFind]
      by_cases h2 : k = k'
      · subst h2;simp only [if_true];exact mFind_none.2 (by rw [← h1];exact h.1)
      · rw [if_neg h2,if_neg (by rw [h1];exact h2)]
    · rw [if_neg h1,mFind,ih h.2,mFind]
      by_cases h2 : k = k'
      · subst h2;simp [h1]
      · simp [h2]
end
theorem sortI_perm (l : List Int) : (sortI l).Perm l:=List.mergeSort_perm l _
theorem sortI_pairwise (l : List Int) : (sortI l).Pairwise (fun x y=>x ≤ y):=by
  have:=List.pairwise_mergeSort (le:=fun x y : Int=>decide (x ≤ y)) (fun a b c h1 h2=>by simp only [decide_eq_true_eq] at *;omega) (fun a b=>by simp only [Bool.or_eq_true,decide_eq_true_eq];omega) l
  exact this.imp fun h=>by simpa using h
theorem sortI_eq {l m : List Int} (hp : l.Perm m) (hm : m.Pairwise (fun x y=>x < y)) : sortI l = m:=by
  refine List.Perm.eq_of_pairwise (le:=fun x y=>x ≤ y) (fun a b _ _ h1 h2=>by omega) (sortI_pairwise l) (hm.imp fun h=>by omega) ((sortI_perm l).trans hp)
end Go.Dk

namespace Go.L
open Go.RowKit
theorem aggT_of {P : Program} {ty n : Nat} (h : (P.underlying ty).map (fun d=>match d with | .struct _ | .array _ _=>true | _=>false) = some true) (hi : (P.info? ty).map (·.size) = some n) : AggT P ty n:=by
  cases hd : P.underlying ty with
  | none=>simp [hd] at h
  | some d=>exact ⟨d,hd,by cases d <;> simp [hd] at h ⊢,hi⟩
theorem convStr {P : Program} {w : World} {ops : Array Oper} {rest : List Oper} {o : Oper} {a : Act} {Q : Exit→Act→World→Prop} {src dst e C : Nat}
    (hs : P.underlying src = some (.slice e)) (he : P.underlying e = some (.int .u8)) (hd : P.underlying dst = some .string) {v : Value} (l : List UInt8) {n : Nat}
    (hr : Rd w C v n (l.map fun b=>.int .u8 b.toNat)) (hn : n = l.length) (hgd : o.guard = none) (x : Operand) (ho : o.op = .convert src dst x) (hx : a.eval x = v)
    (h : wpList P ops Q rest (a.put o.dst (.string ⟨l.toArray⟩)) w) : wpList P ops Q (o::rest) a w:=by
  subst hn
  refine wpList_plain hgd fun K hK=>?_
  unfold Oper.wp execOp
  simp only [ho,Sem.run_bind,Sem.run_pure,Result.andThen_ok,hx,conv_string hs he hd hr]
  exact hK _ _ h
end Go.L
namespace Sha
def rotr (x k : UInt32) : UInt32:=(x >>> k) ||| (x <<< (32 - k))
def kTab : List UInt32:=[
  0x428a2f98,0x71374491,0xb5c0fbcf,0xe9b5dba5,0x3956c25b,0x59f111f1,0x923f82a4,0xab1c5ed5,
  0xd807aa98,0x12835b01,0x243185be,0x550c7dc3,0x72be5d74,0x80deb1fe,0x9bdc06a7,0xc19bf174,
  0xe49b69c1,0xefbe4786,0x0fc19dc6,0x240ca1cc,0x2de92c6f,0x4a7484aa,0x5cb0a9dc,0x76f988da,
  0x983e5152,0xa831c66d,0xb00327c8,0xbf597fc7,0xc6e00bf3,0xd5a79147,0x06ca6351,0x14292967,
  0x27b70a85,0x2e1b2138,0x4d2c6dfc,0x53380d13,0x650a7354,0x766a0abb,0x81c2c92e,0x92722c85,
  0xa2bfe8a1,0xa81a664b,0xc24b8b70,0xc76c51a3,0xd192e819,0xd6990624,0xf40e3585,0x106aa070,
  0x19a4c116,0x1e376c08,0x2748774c,0x34b0bcb5,0x391c0cb3,0x4ed8aa4a,0x5b9cca4f,0x682e6ff3,
  0x748f82ee,0x78a5636f,0x84c87814,0x8cc70208,0x90befffa,0xa4506ceb,0xbef9a3f7,0xc67178f2]
def byteW (b : UInt8) : UInt32:=b.toUInt32
def be32 (b : List UInt8) (at_ : Nat) : UInt32 :=
  byteW (b.getD at_ 0) <<< 24 ||| byteW (b.getD (at_ + 1) 0) <<< 16 ||| byteW (b.getD (at_ + 2) 0) <<< 8 ||| byteW (b.getD (at_ + 3) 0)
def sg0 (p : UInt32) : UInt32:=rotr p 7 ^^^ rotr p 18 ^^^ (p >>> 3)
def sg1 (q : UInt32) : UInt32:=rotr q 17 ^^^ rotr q 19 ^^^ (q >>> 10)
def nextW (b : List UInt8) (L : List UInt32) : UInt32 :=
  if L.length < 16 then be32 b (4 * L.length)
  else L.getD (L.length - 16) 0 + sg0 (L.getD (L.length - 15) 0) + L.getD (L.length - 7) 0 + sg1 (L.getD (L.length - 2) 0)
def sched (b : List UInt8) : Nat→List UInt32
  | 0=>[]
  | n + 1=>sched b n ++ [nextW b (sched b n)]
theorem sched_length (b : List UInt8) : ∀ n,(sched b n).length = n
  | 0=>rfl
  | n + 1=>by simp [sched,sched_length b n]
structure St where
  a : UInt32
  b : UInt32
  c : UInt32
  d : UInt32
  e : UInt32
  f : UInt32
  g : UInt32
  h : UInt32
def bs0 (a : UInt32) : UInt32:=rotr a 2 ^^^ rotr a 13 ^^^ rotr a 22
def bs1 (e : UInt32) : UInt32:=rotr e 6 ^^^ rotr e 11 ^^^ rotr e 25
def ch (e f g : UInt32) : UInt32:=(e &&& f) ^^^ (~~~e &&& g)
def maj (a b c : UInt32) : UInt32:=(a &&& b) ^^^ (a &&& c) ^^^ (b &&& c)
def t1 (s : St) (k w : UInt32) : UInt32:=s.h + bs1 s.e + ch s.e s.f s.g + k + w
def t2 (s : St) : UInt32:=bs0 s.a + maj s.a s.b s.c
def round (s : St) (k w : UInt32) : St :=
  ⟨t1 s k w + t2 s,s.a,s.b,s.c,s.d + t1 s k w,s.e,s.f,s.g⟩
def rounds (W : List UInt32) (s : St) : Nat→St
  | 0=>s
  | n + 1=>round (rounds W s n) (kTab.getD n 0) (W.getD n 0)
def St.add (s v : St) : St:=⟨s.a + v.a,s.b + v.b,s.c + v.c,s.d + v.d,s.e + v.e,s.f + v.f,s.g + v.g,s.h + v.h⟩
def compress (s : St) (b : List UInt8) : St:=s.add (rounds (sched b 64) s 64)
def init : St:=⟨0x6a09e667,0xbb67ae85,0x3c6ef372,0xa54ff53a,0x510e527f,0x9b05688c,0x1f83d9ab,0x5be0cd19⟩
def blocks (m : List UInt8) : Nat→St
  | 0=>init
  | n + 1=>compress (blocks m n) ((m.drop (64 * n)).take 64)
def be64 (n : Nat) : List UInt8:=(List.range 8).map fun i=>UInt8.ofNat (n / 2 ^ (56 - 8 * i))
def zeros (n : Nat) : Nat:=(119 - n % 64) % 64
def pad (n : Nat) : List UInt8:=128::(List.replicate (zeros n) 0 ++ be64 (8 * n))
def padded (m : List UInt8) : List UInt8:=m ++ pad m.length
def wordBytes (x : UInt32) : List UInt8:=[UInt8.ofNat (x.toNat / 2 ^ 24),UInt8.ofNat (x.toNat / 2 ^ 16),UInt8.ofNat (x.toNat / 2 ^ 8),UInt8.ofNat x.toNat]
def St.words (s : St) : List UInt32:=[s.a,s.b,s.c,s.d,s.e,s.f,s.g,s.h]
def St.bytes (s : St) : List UInt8:=s.words.flatMap wordBytes
def sum (m : List UInt8) : List UInt8:=(blocks (padded m) ((padded m).length / 64)).bytes
end Sha
namespace Sha
theorem blocks_append (m x : List UInt8) : ∀ q,64 * q ≤ m.length→blocks (m ++ x) q = blocks m q
  | 0,_=>rfl
  | q + 1,h=>by
    simp only [blocks]
    rw [blocks_append m x q (by omega)]
    congr 1
    rw [List.drop_append_of_le_length (by omega),List.take_append_of_le_length (by rw [List.length_drop];omega)]
def full (m : List UInt8) : Nat→List UInt8
  | 0=>List.replicate 64 0
  | k + 1=>(m.drop (64 * k)).take 64
def Pre (n : Nat) (m blk : List UInt8) : Prop:=blk.take (n % 64) = m.drop (64 * (n / 64))∧blk.drop (n % 64) = (full m (n / 64)).drop (n % 64)
theorem full_append (m x : List UInt8) : ∀ q,64 * q ≤ m.length→full (m ++ x) q = full m q
  | 0,_=>rfl
  | q + 1,h=>by
    show ((m ++ x).drop (64 * q)).take 64 = (m.drop (64 * q)).take 64
    rw [List.drop_append_of_le_length (by omega),List.take_append_of_le_length (by simp;omega)]
def blkOf (m : List UInt8) : List UInt8:=m.drop (64 * (m.length / 64)) ++ (full m (m.length / 64)).drop (m.length % 64)
theorem piece_less (m r : List UInt8) (blk : List UInt8) (n p k : Nat) (hn : n = m.length) (hp : p = n % 64) (hk : p + k < 64) (hkr : k ≤ r.length) (hb : blk.length = 64) (hpre : Pre n m blk) :
    (n + k) / 64 = n / 64∧blocks (m ++ r.take k) ((n + k) / 64) = blocks m (n / 64) ∧
      Pre (n + k) (m ++ r.take k) (blk.take p ++ r.take k ++ blk.drop (p + k)):=by
  have e1 : (n + k) / 64 = n / 64:=by omega
  have e2 : (n + k) % 64 = p + k:=by omega
  have hl : (blk.take p ++ r.take k).length = p + k:=by simp;omega
  refine ⟨e1,?_,?_,?_⟩
  · rw [e1];exact blocks_append _ _ _ (by omega)
  · rw [e1,e2,List.drop_append_of_le_length (by omega),← hpre.1,← hp]
    rw [← hl,List.take_left]
  · rw [e1,e2,full_append _ _ _ (by omega)]
    rw [← hl,List.drop_left,hl,← List.drop_drop,hp,hpre.2,List.drop_drop]
theorem piece_full (m r : List UInt8) (blk : List UInt8) (n p k : Nat) (hn : n = m.length) (hp : p = n % 64) (hk : p + k = 64) (hkr : k ≤ r.length) (hb : blk.length = 64) (hpre : Pre n m blk) :
    blocks (m ++ r.take k) ((n + k) / 64) = compress (blocks m (n / 64)) (blk.take p ++ r.take k ++ blk.drop (p + k)) ∧
      Pre (n + k) (m ++ r.take k) (blk.take p ++ r.take k ++ blk.drop (p + k)):=by
  have e1 : (n + k) / 64 = n / 64 + 1:=by omega
  have e2 : (n + k) % 64 = 0:=by omega
  have hd : blk.drop (p + k) = []:=List.drop_of_length_le (by omega)
  have e3 : (m ++ r.take k).drop (64 * (n / 64)) = blk.take p ++ r.take k:=by
    rw [List.drop_append_of_le_length (by omega),← hpre.1,← hp]
  refine ⟨?_,?_,?_⟩
  · rw [e1]
    simp only [blocks]
    rw [blocks_append _ _ _ (by omega),e3,hd,List.append_nil,List.take_of_length_le (by simp;omega)]
  · rw [e1,e2,List.take_zero]
    exact (List.drop_of_length_le (by simp;omega)).symm
  · rw [e1,e2,List.drop_zero,List.drop_zero]
    show _ = ((m ++ r.take k).drop (64 * (n / 64))).take 64
    rw [e3,hd,List.append_nil]
    exact (List.take_of_length_le (l:=blk.take p ++ r.take k) (by simp;omega)).symm
theorem bytes_length (s : St) : s.bytes.length = 32:=rfl
theorem bytes_at (s : St) : ∀ k,k < 32→s.bytes[k]? = some (UInt8.ofNat ((s.words.getD (k / 4) 0).toNat / 2 ^ (24 - 8 * (k % 4))))
  | 0,_=>rfl
  | 1,_=>rfl
  | 2,_=>rfl
  | 3,_=>by show some (UInt8.ofNat (UInt32.toNat _)) = some (UInt8.ofNat (UInt32.toNat _ / 1));rw [Nat.div_one];rfl
  | 4,_=>rfl
  | 5,_=>rfl
  | 6,_=>rfl
  | 7,_=>by show some (UInt8.ofNat (UInt32.toNat _)) = some (UInt8.ofNat (UInt32.toNat _ / 1));rw [Nat.div_one];rfl
  | 8,_=>rfl
  | 9,_=>rfl
  | 10,_=>rfl
  | 11,_=>by show some (UInt8.ofNat (UInt32.toNat _)) = some (UInt8.ofNat (UInt32.toNat _ / 1));rw [Nat.div_one];rfl
  | 12,_=>rfl
  | 13,_=>rfl
  | 14,_=>rfl
  | 15,_=>by show some (UInt8.ofNat (UInt32.toNat _)) = some (UInt8.ofNat (UInt32.toNat _ / 1));rw [Nat.div_one];rfl
  | 16,_=>rfl
  | 17,_=>rfl
  | 18,_=>rfl
  | 19,_=>by show some (UInt8.ofNat (UInt32.toNat _)) = some (UInt8.ofNat (UInt32.toNat _ / 1));rw [Nat.div_one];rfl
  | 20,_=>rfl
  | 21,_=>rfl
  | 22,_=>rfl
  | 23,_=>by show some (UInt8.ofNat (UInt32.toNat _)) = some (UInt8.ofNat (UInt32.toNat _ / 1));rw [Nat.div_one];rfl
  | 24,_=>rfl
  | 25,_=>rfl
  | 26,_=>rfl
  | 27,_=>by show some (UInt8.ofNat (UInt32.toNat _)) = some (UInt8.ofNat (UInt32.toNat _ / 1));rw [Nat.div_one];rfl
  | 28,_=>rfl
  | 29,_=>rfl
  | 30,_=>rfl
  | 31,_=>by show some (UInt8.ofNat (UInt32.toNat _)) = some (UInt8.ofNat (UInt32.toNat _ / 1));rw [Nat.div_one];rfl
  | k + 32,h=>by omega
theorem sum_length (m : List UInt8) : (sum m).length = 32:=rfl
theorem sum_take (m : List UInt8) (k : Nat) (h : k < 32) : (sum m).take (k + 1) = (sum m).take k ++ [UInt8.ofNat (((blocks (padded m) ((padded m).length / 64)).words.getD (k / 4) 0).toNat / 2 ^ (24 - 8 * (k % 4)))]:=by
  rw [List.take_add_one]
  congr 1
  unfold sum
  rw [bytes_at _ k h];rfl
end Sha
