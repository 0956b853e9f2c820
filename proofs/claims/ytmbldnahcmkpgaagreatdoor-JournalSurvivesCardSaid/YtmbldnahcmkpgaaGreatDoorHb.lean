/- Lists of numbers; Around, At. Machine integers as UInt8, UInt32, UInt64: the walk's spellings of their operations, folded. The encoding of integers and byte strings (layer 1) on lists of bytes. No program in sight. wire.Int returns Wire.int. The reference's Int returns Wire.int, too; Bytes and the reference's Bytes return Wire.bytes. wire.Bytes and the reference's Bytes return Wire.bytes. The word functions of SHA-256: RotateLeft32, mix, rotr. hash.schedule returns Sha.sched. -/
import Derived.Test.YtmbldnahcmkpgaaGreatDoorFr
import Derived.Test.YtmbldnahcmkpgaaGreatDoorTy
import Derived.WalkKit
import Derived.Test.YtmbldnahcmkpgaaGreatDoorProg
import Derived.Test.YtmbldnahcmkpgaaGreatDoorFa
import Derived.Deep.QuietTactic
import Derived.BigQuiet
import Derived.Lib.Hide
import Derived.Test.YtmbldnahcmkpgaaGreatDoorGb
import Derived.StillTailTactics
set_option linter.unusedSimpArgs false
set_option linter.unusedVariables false
namespace Go.Lx
open Go.V
theorem take_snoc {α : Type} {l : List α} {k : Nat} {d : α} (h : k < l.length) : l.take (k + 1) = l.take k ++ [l.getD k d]:=by
  rw [List.take_add_one,List.getD_eq_getElem?_getD,List.getElem?_eq_getElem h];rfl
theorem app_lt {α : Type} {l m : List α} {d : α} {i : Nat} (h : i < l.length) : (l ++ m).getD i d = l.getD i d:=by
  rw [List.getD_eq_getElem?_getD,List.getD_eq_getElem?_getD,List.getElem?_append_left h]
theorem app_eq {α : Type} {l : List α} {x d : α} : (l ++ [x]).getD l.length d = x:=by
  rw [List.getD_eq_getElem?_getD,List.getElem?_append_right (Nat.le_refl _),Nat.sub_self];rfl
theorem set_get {α : Type} {l : List α} {k : Nat} {v d : α} (h : k < l.length) : (l.set k v).getD k d = v:=by
  rw [List.getD_eq_getElem?_getD,List.getElem?_set,if_pos rfl,if_pos h];rfl
theorem set_ne {α : Type} {l : List α} {k j : Nat} {v d : α} (h : j ≠ k) : (l.set k v).getD j d = l.getD j d:=by
  rw [List.getD_eq_getElem?_getD,List.getElem?_set,if_neg (Ne.symm h),← List.getD_eq_getElem?_getD]
theorem getD_mem {α : Type} {l : List α} {k : Nat} {d : α} (h : k < l.length) : l.getD k d ∈ l:=by
  rw [List.getD_eq_getElem?_getD,List.getElem?_eq_getElem h];exact List.getElem_mem _
def idx {α : Type} (q : α→Bool) (k : Nat) : List α→Int
  | []=>-1
  | v::r=>if q v = true then (k : Int) else idx q (k + 1) r
def I64 (n : Int) : Prop:=-9223372036854775808 ≤ n∧n ≤ 9223372036854775807
def IOk (l : List Int) : Prop:=l.length ≤ 9223372036854775807∧∀ x ∈ l,-9223372036854775808 ≤ x∧x ≤ 9223372036854775807
end Go.Lx
namespace Go.V
open Go.Lx
abbrev liV (l : List Int) : AV:=.rsl false l.length 1 (fun i=>.int .i64 (l.getD i 0))
abbrev liO (l : List Int) : AV:=.arr l.length 1 (fun i=>.int .i64 (l.getD i 0))
theorem rel_snocG {A : Nat→Prop} {σ : Nat→Nat} {α : Type} {G : α→AV} {d : α} (hG : ∀ e,NoId (G e)) {o : List α} {x : α} {K : Nat→AV} {i : Nat} (hi : i < o.length + 1) (hK : K 0 = G x:=by rfl) : RelA A σ (G ((o ++ [x]).getD i d)) (joinF o.length (fun i=>G (o.getD i d)) K i):=by
  rcases Nat.lt_or_ge i o.length with h1 | h1
  · rw [joinF_lt h1,app_lt h1];exact NoId.self (hG _)
  · obtain rfl : i = o.length:=by omega
    rw [joinF_ge (Nat.le_refl _),app_eq,Nat.sub_self,hK];exact NoId.self (hG _)
theorem view_li {H : Asc} {bor D : Nat→Prop} {σ : Nat→Nat} {id n : Nat} {l : List Int} (h : get? H id = some (.arr n 1 (fun i=>.int .i64 (l.getD i 0)))) (hb : bor id) (hn : l.length = n) : View H bor D σ (liV l) (.sl id [] 1 0 n):=by
  subst hn
  exact View.sln h rfl trivial (by omega) hb rfl fun i hi=>by rw [Nat.zero_add];exact rfl
theorem retC_conv' {F : Fr} {T : List (Option TI)} {fn : Func} {R : AV→Asc→Prop} {x : Exit} {s s' : St} (h : ∀ a w,Sim F s a w→Sim F s' a w) (h2 : retC F T fn R x s') : retC F T fn R x s:=by
  obtain ⟨s2,h3,h4⟩:=h2
  exact ⟨s2,fun a w hs=>h3 a w (h a w hs),h4⟩
end Go.V
namespace Go.Proofs.YtmbldnahcmkpgaaGreatDoor
open Go.V Go.RowKit Go.L Go.Lx
set_option maxRecDepth 10000
set_option maxHeartbeats 2000000
end Go.Proofs.YtmbldnahcmkpgaaGreatDoor

namespace Go.U
open Go.RowKit
theorem ofInt_nat (n a : Nat) : BitVec.ofInt n (a : Int) = BitVec.ofNat n a:=by simp
theorem ofNat_u32 (a : UInt32) : BitVec.ofNat 32 a.toNat = a.toBitVec:=by
  apply BitVec.eq_of_toNat_eq;simp
theorem wrap_u32 (b : BitVec 32) : IntKind.u32.wrap (b.toNat : Int) = b.toNat:=by
  have:=b.isLt
  simp only [IntKind.wrap,IntKind.bits,IntKind.signed];simp;omega
theorem xor32 (a b : UInt32) : bits .xor .u32 a.toNat b.toNat = ((a ^^^ b).toNat : Int):=by
  show IntKind.u32.wrap (((BitVec.ofInt 32 (a.toNat : Int)) ^^^ (BitVec.ofInt 32 (b.toNat : Int))).toNat : Int) = _
  rw [ofInt_nat,ofInt_nat,ofNat_u32,ofNat_u32,wrap_u32];rfl
theorem or32 (a b : UInt32) : bits .or .u32 a.toNat b.toNat = ((a ||| b).toNat : Int):=by
  show IntKind.u32.wrap (((BitVec.ofInt 32 (a.toNat : Int)) ||| (BitVec.ofInt 32 (b.toNat : Int))).toNat : Int) = _
  rw [ofInt_nat,ofInt_nat,ofNat_u32,ofNat_u32,wrap_u32];rfl
theorem and32 (a b : UInt32) : bits .and .u32 a.toNat b.toNat = ((a &&& b).toNat : Int):=by
  show IntKind.u32.wrap (((BitVec.ofInt 32 (a.toNat : Int)) &&& (BitVec.ofInt 32 (b.toNat : Int))).toNat : Int) = _
  rw [ofInt_nat,ofInt_nat,ofNat_u32,ofNat_u32,wrap_u32];rfl
theorem shr32 (a : UInt32) (k : Nat) (hk : k < 32) : ((a.toNat : Int) / 2 ^ k) = ((a >>> UInt32.ofNat k).toNat : Int):=by
  rw [UInt32.toNat_shiftRight,UInt32.toNat_ofNat',Nat.mod_eq_of_lt (by omega : k < 2 ^ 32),Nat.mod_eq_of_lt hk,Nat.shiftRight_eq_div_pow,Int.natCast_ediv,Int.natCast_pow];rfl
theorem shl32 (a : UInt32) (k : Nat) (hk : k < 32) : ((a.toNat : Int) * 2 ^ k % 4294967296) = ((a <<< UInt32.ofNat k).toNat : Int):=by
  rw [UInt32.toNat_shiftLeft,UInt32.toNat_ofNat',Nat.mod_eq_of_lt (by omega : k < 2 ^ 32),Nat.mod_eq_of_lt hk,Nat.shiftLeft_eq,Int.natCast_emod,Int.natCast_mul,Int.natCast_pow];rfl
theorem add32 (a b : UInt32) : ((a.toNat : Int) + b.toNat) % 4294967296 = ((a + b).toNat : Int):=by
  rw [UInt32.toNat_add,Int.natCast_emod,Int.natCast_add];rfl
end Go.U
namespace Wire
def nd (m : Nat) : Nat :=
  if m < 1 then 0 else if m < 256 then 1 else if m < 65536 then 2 else if m < 16777216 then 3 else if m < 4294967296 then 4
  else if m < 1099511627776 then 5 else if m < 281474976710656 then 6 else if m < 72057594037927936 then 7 else 8
def mag (n : Int) : Nat:=if n < 0 then (-1 - n).toNat else n.toNat
def flip (n : Int) : UInt8:=if n < 0 then 255 else 0
def dig (m j : Nat) : UInt8:=UInt8.ofNat (m / 2 ^ (8 * j))
def digs (f : UInt8) (m : Nat) : Nat→List UInt8
  | 0=>[]
  | k + 1=>(dig m k ^^^ f)::digs f m k
def int (n : Int) : List UInt8:=(UInt8.ofNat (128 + nd (mag n)) ^^^ flip n)::digs (flip n) (mag n) (nd (mag n))
def bytes (s : List UInt8) : List UInt8:=int s.length ++ s
end Wire
namespace Go.Proofs.YtmbldnahcmkpgaaGreatDoor
open Go.RowKit Go.U Go.L
def u8s (l : List UInt8) : List Value:=l.map fun b=>.int .u8 b.toNat
theorem u8s_length (l : List UInt8) : (u8s l).length = l.length:=by simp [u8s]
theorem infoU8 : Info Tryz.prog 77 5 (.int .u8 0) 1 1:=⟨by kernel_rfl,by kernel_rfl,rfl,by decide⟩
theorem u8s_snoc (l : List UInt8) (b : UInt8) : u8s (l ++ [b]) = u8s l ++ [.int .u8 b.toNat]:=by simp [u8s]
theorem one1 (k : IntKind) (x : Int) : ∀ u ∈ [Value.int k x],u.oneCell' = true:=by intro u hu;simp at hu;subst hu;rfl
end Go.Proofs.YtmbldnahcmkpgaaGreatDoor
namespace Go.Proofs.YtmbldnahcmkpgaaGreatDoor
open Go.RowKit Go.U Go.L
theorem snoc_own {w' : World} {B e n n' : Nat} {v : Value} {l : List UInt8} {b : UInt8} {x : Int} (h : w'.ownsRow B e 1 v n (u8s l ++ [.int .u8 x])) (hx : x = b.toNat) (hn : n = n') : w'.ownsRow B e 1 v n' (u8s (l ++ [b])):=by
  subst hx hn;rw [u8s_snoc];exact h
end Go.Proofs.YtmbldnahcmkpgaaGreatDoor
namespace Go.Proofs.YtmbldnahcmkpgaaGreatDoor
open Go.RowKit Go.U Go.L
theorem strT : Tryz.prog.underlying 9 = some .string:=by kernel_rfl
theorem u8sT : Tryz.prog.underlying 77 = some (.slice 5):=by kernel_rfl
theorem u8T : Tryz.prog.underlying 5 = some (.int .u8):=by kernel_rfl
theorem one_u8s (l : List UInt8) : ∀ u ∈ u8s l,u.oneCell' = true:=by
  intro u hu;obtain ⟨_,_,rfl⟩:=List.mem_map.1 hu;rfl
end Go.Proofs.YtmbldnahcmkpgaaGreatDoor

namespace Go.Proofs.YtmbldnahcmkpgaaGreatDoor
open Go.RowKit Go.U
theorem rot_mask : ∀ k : Fin 32,bits BinOp.and IntKind.u64 (IntKind.u64.wrap (-((k.val : Nat) : Int))) 31 = if k.val = 0 then 0 else 32 - ((k.val : Nat) : Int):=by decide
theorem rot_fold (x : UInt32) (k : Nat) (h0 : 0 < k) (hk : k < 32) :
    bits BinOp.or IntKind.u32 (x.toNat * 2 ^ (32 - k) % 4294967296) (x.toNat / 2 ^ (32 - (32 - k))) = ((Sha.rotr x (UInt32.ofNat k)).toNat : Int):=by
  have e : 32 - (32 - k) = k:=by omega
  rw [e,shl32 x (32 - k) (by omega),shr32 x k hk,or32]
  have e2 : UInt32.ofNat (32 - k) = 32 - UInt32.ofNat k:=by
    apply UInt32.toNat_inj.1
    rw [UInt32.toNat_sub_of_le]
    · simp [UInt32.toNat_ofNat'];omega
    · rw [UInt32.le_iff_toNat_le];simp [UInt32.toNat_ofNat'];omega
  rw [e2]
  unfold Sha.rotr
  rw [UInt32.or_comm]
theorem rot_fold2 (x : UInt32) (k : Nat) (h0 : 0 < k) (hk : k < 32) :
    bits BinOp.or IntKind.u32 (x.toNat / 2 ^ k) (x.toNat * 2 ^ (32 - k) % 4294967296) = ((Sha.rotr x (UInt32.ofNat k)).toNat : Int):=by
  rw [shl32 x (32 - k) (by omega),shr32 x k hk,or32]
  have e2 : UInt32.ofNat (32 - k) = 32 - UInt32.ofNat k:=by
    apply UInt32.toNat_inj.1
    rw [UInt32.toNat_sub_of_le]
    · simp [UInt32.toNat_ofNat'];omega
    · rw [UInt32.le_iff_toNat_le];simp [UInt32.toNat_ofNat'];omega
  rw [e2]
  rfl
theorem ret_int {k : IntKind} {a b : Int} (h : a = b) : Ending.returned (.int k a) = .returned (.int k b):=by rw [h]
set_option maxHeartbeats 400000 in
theorem rotl_any (x : UInt32) (k : Nat) (w : World) (h0 : 0 < k) (hk : k < 32) :
    Calls Tryz.prog 122 #[.int .u32 x.toNat,.int .i64 (-k)] w fun e w'=>e = .returned (.int .u32 (Sha.rotr x (UInt32.ofNat k)).toNat)∧w = w':=by
  have h:=rot_mask ⟨k,hk⟩
  simp only [if_neg (show ¬ k = 0 by omega)] at h
  have hx : (x.toNat : Int) < 4294967296:=by have:=x.toNat_lt;omega
  have hx : 0 ≤ (x.toNat : Int):=by omega
  have h1 : (0 : Int) ≤ 32 - k:=by omega
  have h2 : 32 - (k : Int) ≤ 32:=by omega
  go_enter Tryz.func122,Tryz.ntmps122
  go_wp2
  go_ret
  exact ⟨ret_int (rot_fold x k h0 hk),rfl⟩
set_option maxHeartbeats 400000 in
theorem rotr_any (x : UInt32) (k : Nat) (w : World) (h0 : 0 < k) (hk : k < 32) :
    Calls Tryz.prog 105 #[.int .u32 x.toNat,.int .i64 k] w fun e w'=>e = .returned (.int .u32 (Sha.rotr x (UInt32.ofNat k)).toNat)∧∃ n,w' = w.drewN n:=by
  have hx : (x.toNat : Int) < 4294967296:=by have:=x.toNat_lt;omega
  have hx : 0 ≤ (x.toNat : Int):=by omega
  have h1 : (0 : Int) ≤ 32 - k:=by omega
  have h2 : 32 - (k : Int) ≤ 32:=by omega
  have h3 : (0 : Int) ≤ k:=by omega
  go_enter Tryz.func105,Tryz.ntmps105
  go_wp2
  go_quiet (fail)
  go_wp2
  go_ret
  exact ⟨ret_int (rot_fold2 x k h0 hk),_,rfl⟩
set_option maxHeartbeats 400000 in
theorem mix_any (x : UInt32) (i j k : Nat) (w : World) (hi : 0 < i∧i < 32) (hj : 0 < j∧j < 32) (hk : 0 < k∧k < 32) :
    Calls Tryz.prog 110 #[.int .u32 x.toNat,.int .i64 i,.int .i64 j,.int .i64 k] w fun e w' =>
      e = .returned (.int .u32 (Sha.rotr x (UInt32.ofNat i) ^^^ Sha.rotr x (UInt32.ofNat j) ^^^ Sha.rotr x (UInt32.ofNat k)).toNat)∧w = w':=by
  obtain ⟨hi0,hi1⟩:=hi
  obtain ⟨hj0,hj1⟩:=hj
  obtain ⟨hk0,hk1⟩:=hk
  go_enter Tryz.func110,Tryz.ntmps110
  go_wp2_with fail
  ((with_reducible refine (rotl_any x i w (by omega) (by omega)).mono ?_);rintro e w' ⟨rfl,rfl⟩)
  go_wp2_with fail
  ((with_reducible refine (rotl_any x j w (by omega) (by omega)).mono ?_);rintro e w' ⟨rfl,rfl⟩)
  go_wp2_with fail
  ((with_reducible refine (rotl_any x k w (by omega) (by omega)).mono ?_);rintro e w' ⟨rfl,rfl⟩)
  go_wp2_with fail
  go_ret
  exact ⟨ret_int (by rw [xor32,xor32]),rfl⟩
theorem rotl7 (x : UInt32) (w : World) : Calls Tryz.prog 122 #[.int .u32 x.toNat,.int .i64 (-7)] w fun e w'=>e = .returned (.int .u32 (Sha.rotr x 7).toNat)∧w = w' :=
  rotl_any x 7 w (by omega) (by omega)
theorem rotl18 (x : UInt32) (w : World) : Calls Tryz.prog 122 #[.int .u32 x.toNat,.int .i64 (-18)] w fun e w'=>e = .returned (.int .u32 (Sha.rotr x 18).toNat)∧w = w' :=
  rotl_any x 18 w (by omega) (by omega)
theorem rotl17 (x : UInt32) (w : World) : Calls Tryz.prog 122 #[.int .u32 x.toNat,.int .i64 (-17)] w fun e w'=>e = .returned (.int .u32 (Sha.rotr x 17).toNat)∧w = w' :=
  rotl_any x 17 w (by omega) (by omega)
theorem rotl19 (x : UInt32) (w : World) : Calls Tryz.prog 122 #[.int .u32 x.toNat,.int .i64 (-19)] w fun e w'=>e = .returned (.int .u32 (Sha.rotr x 19).toNat)∧w = w' :=
  rotl_any x 19 w (by omega) (by omega)
theorem mix6 (x : UInt32) (w : World) : Calls Tryz.prog 110 #[.int .u32 x.toNat,.int .i64 6,.int .i64 11,.int .i64 25] w fun e w'=>e = .returned (.int .u32 (Sha.bs1 x).toNat)∧w = w' :=
  mix_any x 6 11 25 w (by omega) (by omega) (by omega)
theorem mix2 (x : UInt32) (w : World) : Calls Tryz.prog 110 #[.int .u32 x.toNat,.int .i64 2,.int .i64 13,.int .i64 22] w fun e w'=>e = .returned (.int .u32 (Sha.bs0 x).toNat)∧w = w' :=
  mix_any x 2 13 22 w (by omega) (by omega) (by omega)
end Go.Proofs.YtmbldnahcmkpgaaGreatDoor

namespace Go.Proofs.YtmbldnahcmkpgaaGreatDoor
open Go.RowKit Go.U Go.L
def u32s (l : List UInt32) : List Value:=l.map fun x=>.int .u32 x.toNat
def arr64 (l : List UInt32) : List Value:=u32s (l ++ List.replicate (64 - l.length) 0)
theorem arr64_length (l : List UInt32) (h : l.length ≤ 64) : (arr64 l).length = 64:=by simp [arr64,u32s];omega
def part (b : List UInt8) (p : Nat) : Nat→UInt32
  | 0=>0
  | k + 1=>(part b p k <<< 8) ||| Sha.byteW (b.getD (p + k) 0)
theorem arr64_at (l : List UInt32) (i : Nat) (h : i < l.length) : (arr64 l)[i]? = some (.int .u32 (l.getD i 0).toNat):=by
  unfold arr64 u32s
  rw [List.map_append,List.getElem?_append_left (by simpa using h)]
  simp [h]
theorem arr64_zero (l : List UInt32) (h : l.length < 64) : (arr64 l)[l.length]? = some (.int .u32 0):=by
  unfold arr64 u32s
  rw [List.map_append,List.getElem?_append_right (by simp),List.length_map,Nat.sub_self]
  obtain ⟨n,hn⟩ : ∃ n,64 - l.length = n + 1:=⟨64 - l.length - 1,by omega⟩
  rw [hn];rfl
theorem arr64_snoc (l : List UInt32) (x : UInt32) (h : l.length < 64) : (arr64 l).set l.length (.int .u32 x.toNat) = arr64 (l ++ [x]):=by
  unfold arr64 u32s
  obtain ⟨n,hn⟩ : ∃ n,64 - l.length = n + 1:=⟨64 - l.length - 1,by omega⟩
  have e : 64 - (l ++ [x]).length = n:=by simp;omega
  rw [hn,e,List.map_append,List.map_append,List.map_append]
  rw [List.set_append_right _ _ (by simp),List.length_map,Nat.sub_self,List.replicate_succ]
  simp
theorem byteW_nat (b : UInt8) : ((Sha.byteW b).toNat : Int) = b.toNat:=by simp [Sha.byteW]
theorem part_step (p : UInt32) (b : UInt8) : bits BinOp.or IntKind.u32 (p.toNat * 256 % 4294967296) b.toNat = (((p <<< 8) ||| Sha.byteW b).toNat : Int):=by
  have h:=shl32 p 8 (by omega)
  rw [show ((2 : Int) ^ 8) = 256 from rfl] at h
  rw [h,← byteW_nat,or32];rfl
theorem part_four (b : List UInt8) (p : Nat) : part b p 4 = Sha.be32 b p:=by
  unfold Sha.be32
  simp only [part,Nat.add_zero]
  generalize Sha.byteW (b.getD p 0) = x0
  generalize Sha.byteW (b.getD (p + 1) 0) = x1
  generalize Sha.byteW (b.getD (p + 2) 0) = x2
  generalize Sha.byteW (b.getD (p + 3) 0) = x3
  apply UInt32.toBitVec_inj.1
  simp [UInt32.toBitVec_shiftLeft]
  rw [BitVec.shiftLeft_or_distrib,BitVec.shiftLeft_or_distrib,BitVec.shiftLeft_or_distrib,← BitVec.shiftLeft_add,← BitVec.shiftLeft_add,← BitVec.shiftLeft_add]
theorem sched_low (b : List UInt8) (t : Nat) (h : t < 16) : Sha.sched b t ++ [Sha.be32 b (4 * t)] = Sha.sched b (t + 1):=by
  simp only [Sha.sched,Sha.nextW,Sha.sched_length,if_pos h]
theorem aggW64 : AggT Tryz.prog 158 64:=⟨.array 64 134,by kernel_rfl,rfl,by kernel_rfl⟩
theorem infoW64 : (Tryz.prog.info? 158).map (·.size) = some 64:=by kernel_rfl
theorem one_u32s (l : List UInt32) : ∀ u ∈ u32s l,u.oneCell' = true:=by
  intro u hu;obtain ⟨_,_,rfl⟩:=List.mem_map.1 hu;rfl
theorem one_arr (l : List UInt32) : ∀ u ∈ arr64 l,u.oneCell' = true:=one_u32s _
theorem arr64_full (l : List UInt32) (h : l.length = 64) : arr64 l = u32s l:=by simp [arr64,h]
theorem below_drewN {B : Nat} {a w : World} (h : Below B a w) (n : Nat) : Below B a (w.drewN n):=⟨h.os,h.tape,h.output,h.size,h.block⟩
theorem sum4 (x p y q : UInt32) : ((x.toNat : Int) + bits BinOp.xor IntKind.u32 (bits BinOp.xor IntKind.u32 (Sha.rotr p 7).toNat (Sha.rotr p 18).toNat) (p.toNat / 8) + y.toNat +
    bits BinOp.xor IntKind.u32 (bits BinOp.xor IntKind.u32 (Sha.rotr q 17).toNat (Sha.rotr q 19).toNat) (q.toNat / 1024)) % 4294967296 = ((x + Sha.sg0 p + y + Sha.sg1 q).toNat : Int):=by
  have h3:=shr32 p 3 (by omega)
  have h10:=shr32 q 10 (by omega)
  rw [show ((2 : Int) ^ 3) = 8 from rfl] at h3
  rw [show ((2 : Int) ^ 10) = 1024 from rfl] at h10
  rw [h3,h10,xor32,xor32,xor32,xor32,← add32,← add32,← add32]
  simp only [Sha.sg0,Sha.sg1]
  have e1 : UInt32.ofNat 3 = 3:=rfl
  have e2 : UInt32.ofNat 10 = 10:=rfl
  rw [e1,e2]
  omega
theorem hset_same {cs : List Value} {i : Nat} {v : Value} (h : cs[i]? = some v) : cs.set i v = cs:=by
  apply List.ext_getElem?
  intro j
  by_cases hj : i = j
  · subst hj
    rw [List.getElem?_set_self (by rcases Nat.lt_or_ge i cs.length with h1 | h1;exact h1;rw [List.getElem?_eq_none h1] at h;cases h),h]
  · rw [List.getElem?_set_ne hj]
set_option maxHeartbeats 2000000 in
theorem schedule_any (b : List UInt8) (g off cap : Nat) (w : World) (hb : b.length = 64) (hcap : 64 ≤ cap∧cap ≤ 1099511627776) (hg : g < w.heap.size)
    (hc : ∀ j,j < 64→w.cell? ⟨g,off + j,none⟩ = some (.int .u8 ((b.getD j 0).toNat : Nat))) :
    Calls Tryz.prog 109 #[.slice (some ⟨g,off,none⟩) 64 cap] w fun e w'=>e = .returned (.agg (u32s (Sha.sched b 64)).toArray)∧Below w.heap.size w w':=by
  obtain ⟨hcap1,hcap2⟩:=hcap
  have HC:=Lib.hid hc
  clear hc
  go_enter Tryz.func109,Tryz.ntmps109
  go_wp2
  go_loopw [11] (fun i wr=>∃ t : Nat,t ≤ 64∧i = .int .i64 t∧Blk wr w.heap.size (arr64 []) 158∧Blk wr (w.heap.size + 1) (arr64 (Sha.sched b t)) 158∧Below w.heap.size w wr) (fun i _=>(64 - intOf i).toNat)
  case atStart =>
    refine ⟨0,by omega,rfl,(Blk.new _ (arr64 []) _).alloc _,?_,((Below.refl _ _).alloc (Nat.le_refl _) _).alloc (by simp) _⟩
    have:=Blk.new (w.alloc (.cells (arr64 []).toArray 158)) (arr64 []) 158
    simp only [World.size_alloc] at this
    exact this
  case round =>
    obtain ⟨t,ht,rfl,hB0,hB1,hb1⟩:=hrel
    have hsz:=hb1.size
    by_cases h64 : t < 64
    · by_cases h16 : t < 16
      · have hcells : ∀ j,j < 4→wr.cell? ⟨g,off + 4 * t + j,none⟩ = some (.int .u8 ((b.getD (4 * t + j) 0).toNat : Nat)):=by
          intro j hj
          have:=HC.out (4 * t + j) (by omega)
          rw [← Nat.add_assoc] at this
          exact (hb1.cell (p:=⟨g,off + 4 * t + j,none⟩) hg).trans this
        have HCS:=Lib.hid hcells
        clear hcells
        have d64 : decide ((t : Int) < 64) = true:=by simp;omega
        have d16 : decide ((t : Int) < 16) = true:=by simp;omega
        have hlen:=Sha.sched_length b t
        have HL:=Lib.hid hlen
        clear hlen
        obtain ⟨wo,rfl⟩ : ∃ wo : World,wo = wr:=⟨_,rfl⟩
        go_wp2
        go_loopw [24] (fun i wr=>∃ k : Nat,k ≤ 4∧i = .int .i64 k∧Blk wr w.heap.size (arr64 []) 158∧Blk wr (w.heap.size + 1) ((arr64 (Sha.sched b t)).set t (.int .u32 (part b (4 * t) k).toNat)) 158∧Below w.heap.size w wr∧wr.heap.size = wo.heap.size) (fun i _=>(4 - intOf i).toNat)
        case atStart =>
          refine ⟨0,by omega,rfl,hB0,?_,hb1,rfl⟩
          have:=arr64_zero (Sha.sched b t) (by rw [HL.out];omega)
          rw [HL.out] at this
          have e : part b (4 * t) 0 = 0:=rfl
          rw [e]
          have e2 : Value.int .u32 ((0 : UInt32).toNat : Int) = .int .u32 0:=rfl
          rw [e2,hset_same this];exact hB1
        case round =>
          obtain ⟨k,hk,rfl,hC0,hC1,hb2,hsz2⟩:=hrel
          by_cases hk4 : k < 4
          · obtain ⟨bv,hbv⟩ : ∃ bv,bv = b.getD (4 * t + k) 0:=⟨_,rfl⟩
            have hc1 : wr.cell? ⟨g,off + 4 * t + k,none⟩ = some (.int .u8 (bv.toNat : Nat)):=by
              rw [hbv]
              exact ((hb2.cell (p:=⟨g,off + 4 * t + k,none⟩) hg).trans (hb1.cell (p:=⟨g,off + 4 * t + k,none⟩) hg).symm).trans (HCS.out k hk4)
            have HBV:=Lib.hid hbv
            clear hbv
            have hbl : (bv.toNat : Int) ≤ 255:=by have:=bv.toNat_lt;omega
            have hbl0 : 0 ≤ (bv.toNat : Int):=by omega
            have hc2 : wr.cell? ⟨w.heap.size + 1,t,none⟩ = some (.int .u32 (part b (4 * t) k).toNat):=hC1.cell (by rw [List.getElem?_set_self (by rw [arr64_length _ (by rw [HL.out];omega)];omega)])
            have hc3:=hC1.free (i:=t) (by rw [List.length_set,arr64_length _ (by rw [HL.out];omega)];omega)
            go_wp2
            refine ⟨⟨k + 1,by omega,by go_num,hC0.other t _ (by omega),?_,hb2.setCell (by show _ ≤ w.heap.size + 1;omega) _,by simpa using hsz2⟩,by simp [intOf];omega⟩
            have:=hC1.set t (.int .u32 (part b (4 * t) (k + 1)).toNat)
            rw [List.set_set] at this
            rw [part_step,HBV.out]
            exact this
          · obtain rfl : k = 4:=by omega
            have hend : (arr64 (Sha.sched b t)).set t (.int .u32 (part b (4 * t) 4).toNat) = arr64 (Sha.sched b (t + 1)):=by
              have:=arr64_snoc (Sha.sched b t) (part b (4 * t) 4) (by rw [HL.out];omega)
              rw [HL.out] at this
              rw [this,part_four,sched_low b t h16]
            rw [hend] at hC1
            clear hend
            go_wp2
            exact ⟨⟨t + 1,by omega,by go_num,hC0,hC1,hb2⟩,by simp [intOf];omega⟩
      · have d64 : decide ((t : Int) < 64) = true:=by simp;omega
        have d16 : decide ((t : Int) < 16) = false:=by simp;omega
        obtain ⟨L,hL⟩ : ∃ L,L = Sha.sched b t:=⟨_,rfl⟩
        have hlen : L.length = t:=by rw [hL];exact Sha.sched_length b t
        rw [← hL] at hB1
        have h15 : wr.cell? ⟨w.heap.size + 1,t - 15,none⟩ = some (.int .u32 (L.getD (t - 15) 0).toNat):=hB1.cell (arr64_at L _ (by omega))
        have h2 : wr.cell? ⟨w.heap.size + 1,t - 2,none⟩ = some (.int .u32 (L.getD (t - 2) 0).toNat):=hB1.cell (arr64_at L _ (by omega))
        have h16' : wr.cell? ⟨w.heap.size + 1,t - 16,none⟩ = some (.int .u32 (L.getD (t - 16) 0).toNat):=hB1.cell (arr64_at L _ (by omega))
        have h7 : wr.cell? ⟨w.heap.size + 1,t - 7,none⟩ = some (.int .u32 (L.getD (t - 7) 0).toNat):=hB1.cell (arr64_at L _ (by omega))
        have HX : Hid (L.getD (t - 16) 0 + Sha.sg0 (L.getD (t - 15) 0) + L.getD (t - 7) 0 + Sha.sg1 (L.getD (t - 2) 0) = Sha.nextW b L):=by
          unfold Sha.nextW;rw [hlen,if_neg h16];exact rfl
        have hc4 : wr.cell? ⟨w.heap.size + 1,t,none⟩ = some (.int .u32 0):=hB1.cell (by have:=arr64_zero L (by omega);rwa [hlen] at this)
        have HL:=Lib.hid hL
        have HLL:=Lib.hid hlen
        clear hL hlen
        generalize L.getD (t - 16) 0 = x16 at *
        generalize L.getD (t - 15) 0 = p at *
        generalize L.getD (t - 7) 0 = x7 at *
        generalize L.getD (t - 2) 0 = q at *
        have b15 : (0 : Int) ≤ t - 15:=by omega
        have b2 : (0 : Int) ≤ t - 2:=by omega
        have b16 : (0 : Int) ≤ t - 16:=by omega
        have b7 : (0 : Int) ≤ t - 7:=by omega
        have b15' : (t : Int) - 15 < 64:=by omega
        have b2' : (t : Int) - 2 < 64:=by omega
        have b16' : (t : Int) - 16 < 64:=by omega
        have b7' : (t : Int) - 7 < 64:=by omega
        have hc3:=hB1.free (i:=t) (by rw [arr64_length _ (by rw [HLL.out];omega)];omega)
        go_wp2
        go_quiet (fail)
        go_wp2_with (first
          | ((with_reducible refine (rotl7 _ _).mono ?_);rintro e w' ⟨rfl,rfl⟩)
          | ((with_reducible refine (rotl18 _ _).mono ?_);rintro e w' ⟨rfl,rfl⟩)
          | ((with_reducible refine (rotl17 _ _).mono ?_);rintro e w' ⟨rfl,rfl⟩)
          | ((with_reducible refine (rotl19 _ _).mono ?_);rintro e w' ⟨rfl,rfl⟩))
        go_region
        go_wp2
        refine ⟨⟨t + 1,by omega,by go_num,(hB0.drewN _).other t _ (by omega),?_,?_⟩,by simp [intOf];omega⟩
        · have h5:=(hB1.drewN (nq + 1)).set t (.int .u32 (Sha.nextW b L).toNat)
          have e : (arr64 L).set t (.int .u32 (Sha.nextW b L).toNat) = arr64 (Sha.sched b (t + 1)):=by
            have:=arr64_snoc L (Sha.nextW b L) (by rw [HLL.out];omega)
            rw [HLL.out] at this
            rw [this,HL.out];rfl
          rw [e,← HX.out] at h5
          rw [sum4 x16 p x7 q]
          exact h5
        · exact (below_drewN hb1 _).setCell (by show _ ≤ w.heap.size + 1;omega) _
    · obtain rfl : t = 64:=by omega
      have d64 : decide (((64 : Nat) : Int) < 64) = false:=by simp
      have hl64 : (arr64 (Sha.sched b 64)).length = 64:=arr64_length _ (by rw [Sha.sched_length];omega)
      have hl0 : (arr64 []).length = 64:=arr64_length _ (by simp)
      go_wp2_with (first
        | (refine ldAll aggW64 hB1 hl64 rfl _ rfl rfl ?_)
        | (refine stAll infoW64 hB0 _ hl64 (one_arr _) hl0 rfl rfl _ _ rfl rfl rfl ?_))
      refine bodyPost_ret (v:=.agg (arr64 (Sha.sched b 64)).toArray) (res_cell rfl aggW64 (hB0.row _ (hl64.trans hl0.symm)) hl64 _ rfl) rfl ⟨?_,below_row hb1 (Nat.le_refl _) _⟩
      rw [arr64_full _ (Sha.sched_length b 64)]
end Go.Proofs.YtmbldnahcmkpgaaGreatDoor
