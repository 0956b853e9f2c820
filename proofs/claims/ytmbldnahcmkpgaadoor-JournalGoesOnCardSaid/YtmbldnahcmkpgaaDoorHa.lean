/- Lists of numbers; Around, At. Machine integers as UInt8, UInt32, UInt64: the walk's spellings of their operations, folded. The encoding of integers and byte strings (layer 1) on lists of bytes. No program in sight. wire.Int returns Wire.int. The reference's Int returns Wire.int, too; Bytes and the reference's Bytes return Wire.bytes. wire.Bytes and the reference's Bytes return Wire.bytes. The word functions of SHA-256: RotateLeft32, mix, rotr. -/
import Derived.Test.YtmbldnahcmkpgaaDoorFp
import Derived.Test.YtmbldnahcmkpgaaDoorTy
import Derived.WalkKit
import Derived.Test.YtmbldnahcmkpgaaDoorProg
import Derived.Test.YtmbldnahcmkpgaaDoorFa
import Derived.Deep.QuietTactic
import Derived.BigQuiet
import Derived.Lib.Hide
import Derived.Test.YtmbldnahcmkpgaaDoorGb
set_option linter.unusedSimpArgs false
set_option linter.unusedVariables false
namespace Go.Lx
open Go.V
theorem drop_step {α : Type} {l : List α} {k : Nat} {d : α} (h : k < l.length) : l.drop k = l.getD k d :: l.drop (k + 1) := by
  rw [List.drop_eq_getElem_cons h, List.getD_eq_getElem?_getD, List.getElem?_eq_getElem h]; rfl
theorem take_snoc {α : Type} {l : List α} {k : Nat} {d : α} (h : k < l.length) : l.take (k + 1) = l.take k ++ [l.getD k d] := by
  rw [List.take_add_one, List.getD_eq_getElem?_getD, List.getElem?_eq_getElem h]; rfl
theorem app_lt {α : Type} {l m : List α} {d : α} {i : Nat} (h : i < l.length) : (l ++ m).getD i d = l.getD i d := by
  rw [List.getD_eq_getElem?_getD, List.getD_eq_getElem?_getD, List.getElem?_append_left h]
theorem app_eq {α : Type} {l : List α} {x d : α} : (l ++ [x]).getD l.length d = x := by
  rw [List.getD_eq_getElem?_getD, List.getElem?_append_right (Nat.le_refl _), Nat.sub_self]; rfl
theorem set_get {α : Type} {l : List α} {k : Nat} {v d : α} (h : k < l.length) : (l.set k v).getD k d = v := by
  rw [List.getD_eq_getElem?_getD, List.getElem?_set, if_pos rfl, if_pos h]; rfl
theorem set_ne {α : Type} {l : List α} {k j : Nat} {v d : α} (h : j ≠ k) : (l.set k v).getD j d = l.getD j d := by
  rw [List.getD_eq_getElem?_getD, List.getElem?_set, if_neg (Ne.symm h), ← List.getD_eq_getElem?_getD]
theorem getD_mem {α : Type} {l : List α} {k : Nat} {d : α} (h : k < l.length) : l.getD k d ∈ l := by
  rw [List.getD_eq_getElem?_getD, List.getElem?_eq_getElem h]; exact List.getElem_mem _
/-- Where the first element is for which a test holds; -1: nowhere. -/
def idx {α : Type} (q : α → Bool) (k : Nat) : List α → Int
  | [] => -1
  | v :: r => if q v = true then (k : Int) else idx q (k + 1) r
def I64 (n : Int) : Prop := -9223372036854775808 ≤ n ∧ n ≤ 9223372036854775807
def IOk (l : List Int) : Prop := l.length ≤ 9223372036854775807 ∧ ∀ x ∈ l, -9223372036854775808 ≤ x ∧ x ≤ 9223372036854775807
theorem IOk.get {l : List Int} (h : IOk l) (i : Nat) : -9223372036854775808 ≤ l.getD i 0 ∧ l.getD i 0 ≤ 9223372036854775807 := by
  rcases Nat.lt_or_ge i l.length with hi | hi
  · rw [List.getD_eq_getElem?_getD, List.getElem?_eq_getElem hi]; exact h.2 _ (List.getElem_mem hi)
  · rw [List.getD_eq_getElem?_getD, List.getElem?_eq_none hi]; exact ⟨by decide, by decide⟩
end Go.Lx
namespace Go.V
open Go.Lx
/-- A list of numbers: read-only, own. -/
abbrev liV (l : List Int) : AV := .rsl false l.length 1 (fun i => .int .i64 (l.getD i 0))
abbrev liO (l : List Int) : AV := .arr l.length 1 (fun i => .int .i64 (l.getD i 0))
theorem rel_snocG {A : Nat → Prop} {σ : Nat → Nat} {α : Type} {G : α → AV} {d : α} (hG : ∀ e, NoId (G e)) {o : List α} {x : α} {K : Nat → AV} {i : Nat} (hi : i < o.length + 1) (hK : K 0 = G x := by rfl) : RelA A σ (G ((o ++ [x]).getD i d)) (joinF o.length (fun i => G (o.getD i d)) K i) := by
  rcases Nat.lt_or_ge i o.length with h1 | h1
  · rw [joinF_lt h1, app_lt h1]; exact NoId.self (hG _)
  · obtain rfl : i = o.length := by omega
    rw [joinF_ge (Nat.le_refl _), app_eq, Nat.sub_self, hK]; exact NoId.self (hG _)
theorem view_li {H : Asc} {bor D : Nat → Prop} {σ : Nat → Nat} {id n : Nat} {l : List Int} (h : get? H id = some (.arr n 1 (fun i => .int .i64 (l.getD i 0)))) (hb : bor id) (hn : l.length = n) : View H bor D σ (liV l) (.sl id [] 1 0 n) := by
  subst hn
  exact View.sln h rfl trivial (by omega) hb rfl fun i hi => by rw [Nat.zero_add]; exact rfl
theorem retC_conv' {F : Fr} {T : List (Option TI)} {fn : Func} {R : AV → Asc → Prop} {x : Exit} {s s' : St} (h : ∀ a w, Sim F s a w → Sim F s' a w) (h2 : retC F T fn R x s') : retC F T fn R x s := by
  obtain ⟨s2, h3, h4⟩ := h2
  exact ⟨s2, fun a w hs => h3 a w (h a w hs), h4⟩
end Go.V
namespace Go.Proofs.YtmbldnahcmkpgaaDoor
open Go.V Go.RowKit Go.L Go.Lx
set_option maxRecDepth 10000
set_option maxHeartbeats 2000000
end Go.Proofs.YtmbldnahcmkpgaaDoor

/- U -/
namespace Go.U
open Go.RowKit
theorem ofInt_nat (n a : Nat) : BitVec.ofInt n (a : Int) = BitVec.ofNat n a := by simp
theorem ofNat_u32 (a : UInt32) : BitVec.ofNat 32 a.toNat = a.toBitVec := by
  apply BitVec.eq_of_toNat_eq; simp
theorem wrap_u32 (b : BitVec 32) : IntKind.u32.wrap (b.toNat : Int) = b.toNat := by
  have := b.isLt
  simp only [IntKind.wrap, IntKind.bits, IntKind.signed]; simp; omega
theorem xor32 (a b : UInt32) : bits .xor .u32 a.toNat b.toNat = ((a ^^^ b).toNat : Int) := by
  show IntKind.u32.wrap (((BitVec.ofInt 32 (a.toNat : Int)) ^^^ (BitVec.ofInt 32 (b.toNat : Int))).toNat : Int) = _
  rw [ofInt_nat, ofInt_nat, ofNat_u32, ofNat_u32, wrap_u32]; rfl
theorem or32 (a b : UInt32) : bits .or .u32 a.toNat b.toNat = ((a ||| b).toNat : Int) := by
  show IntKind.u32.wrap (((BitVec.ofInt 32 (a.toNat : Int)) ||| (BitVec.ofInt 32 (b.toNat : Int))).toNat : Int) = _
  rw [ofInt_nat, ofInt_nat, ofNat_u32, ofNat_u32, wrap_u32]; rfl
theorem and32 (a b : UInt32) : bits .and .u32 a.toNat b.toNat = ((a &&& b).toNat : Int) := by
  show IntKind.u32.wrap (((BitVec.ofInt 32 (a.toNat : Int)) &&& (BitVec.ofInt 32 (b.toNat : Int))).toNat : Int) = _
  rw [ofInt_nat, ofInt_nat, ofNat_u32, ofNat_u32, wrap_u32]; rfl
theorem shr32 (a : UInt32) (k : Nat) (hk : k < 32) : ((a.toNat : Int) / 2 ^ k) = ((a >>> UInt32.ofNat k).toNat : Int) := by
  rw [UInt32.toNat_shiftRight, UInt32.toNat_ofNat', Nat.mod_eq_of_lt (by omega : k < 2 ^ 32), Nat.mod_eq_of_lt hk, Nat.shiftRight_eq_div_pow, Int.natCast_ediv, Int.natCast_pow]; rfl
theorem shl32 (a : UInt32) (k : Nat) (hk : k < 32) : ((a.toNat : Int) * 2 ^ k % 4294967296) = ((a <<< UInt32.ofNat k).toNat : Int) := by
  rw [UInt32.toNat_shiftLeft, UInt32.toNat_ofNat', Nat.mod_eq_of_lt (by omega : k < 2 ^ 32), Nat.mod_eq_of_lt hk, Nat.shiftLeft_eq, Int.natCast_emod, Int.natCast_mul, Int.natCast_pow]; rfl
theorem add32 (a b : UInt32) : ((a.toNat : Int) + b.toNat) % 4294967296 = ((a + b).toNat : Int) := by
  rw [UInt32.toNat_add, Int.natCast_emod, Int.natCast_add]; rfl
end Go.U
/- Wire -/
namespace Wire
/-- The number of digits to the base 256. -/
def nd (m : Nat) : Nat :=
  if m < 1 then 0 else if m < 256 then 1 else if m < 65536 then 2 else if m < 16777216 then 3 else if m < 4294967296 then 4
  else if m < 1099511627776 then 5 else if m < 281474976710656 then 6 else if m < 72057594037927936 then 7 else 8
def mag (n : Int) : Nat := if n < 0 then (-1 - n).toNat else n.toNat
def flip (n : Int) : UInt8 := if n < 0 then 255 else 0
def dig (m j : Nat) : UInt8 := UInt8.ofNat (m / 2 ^ (8 * j))
/-- The last k digits, the most significant one first. -/
def digs (f : UInt8) (m : Nat) : Nat → List UInt8
  | 0 => []
  | k + 1 => (dig m k ^^^ f) :: digs f m k
def int (n : Int) : List UInt8 := (UInt8.ofNat (128 + nd (mag n)) ^^^ flip n) :: digs (flip n) (mag n) (nd (mag n))
def bytes (s : List UInt8) : List UInt8 := int s.length ++ s
end Wire
/- Wa -/
namespace Go.Proofs.YtmbldnahcmkpgaaDoor
open Go.RowKit Go.U Go.L
def u8s (l : List UInt8) : List Value := l.map fun b => .int .u8 b.toNat
theorem u8s_length (l : List UInt8) : (u8s l).length = l.length := by simp [u8s]
theorem infoU8 : Info Tryd.prog 36 5 (.int .u8 0) 1 1 := ⟨by kernel_rfl, by kernel_rfl, rfl, by decide⟩
theorem u8s_snoc (l : List UInt8) (b : UInt8) : u8s (l ++ [b]) = u8s l ++ [.int .u8 b.toNat] := by simp [u8s]
theorem one1 (k : IntKind) (x : Int) : ∀ u ∈ [Value.int k x], u.oneCell' = true := by intro u hu; simp at hu; subst hu; rfl
end Go.Proofs.YtmbldnahcmkpgaaDoor
/- Wb -/
namespace Go.Proofs.YtmbldnahcmkpgaaDoor
open Go.RowKit Go.U Go.L
theorem snoc_own {w' : World} {B e n n' : Nat} {v : Value} {l : List UInt8} {b : UInt8} {x : Int} (h : w'.ownsRow B e 1 v n (u8s l ++ [.int .u8 x])) (hx : x = b.toNat) (hn : n = n') : w'.ownsRow B e 1 v n' (u8s (l ++ [b])) := by
  subst hx hn; rw [u8s_snoc]; exact h
end Go.Proofs.YtmbldnahcmkpgaaDoor
/- Wc -/
namespace Go.Proofs.YtmbldnahcmkpgaaDoor
open Go.RowKit Go.U Go.L
theorem strT : Tryd.prog.underlying 9 = some .string := by kernel_rfl
theorem u8sT : Tryd.prog.underlying 36 = some (.slice 5) := by kernel_rfl
theorem u8T : Tryd.prog.underlying 5 = some (.int .u8) := by kernel_rfl
theorem one_u8s (l : List UInt8) : ∀ u ∈ u8s l, u.oneCell' = true := by
  intro u hu; obtain ⟨_, _, rfl⟩ := List.mem_map.1 hu; rfl
end Go.Proofs.YtmbldnahcmkpgaaDoor

namespace Go.Proofs.YtmbldnahcmkpgaaDoor
open Go.RowKit Go.U
theorem rot_mask : ∀ k : Fin 32, bits BinOp.and IntKind.u64 (IntKind.u64.wrap (-((k.val : Nat) : Int))) 31 = if k.val = 0 then 0 else 32 - ((k.val : Nat) : Int) := by decide
theorem rot_fold (x : UInt32) (k : Nat) (h0 : 0 < k) (hk : k < 32) :
    bits BinOp.or IntKind.u32 (x.toNat * 2 ^ (32 - k) % 4294967296) (x.toNat / 2 ^ (32 - (32 - k))) = ((Sha.rotr x (UInt32.ofNat k)).toNat : Int) := by
  have e : 32 - (32 - k) = k := by omega
  rw [e, shl32 x (32 - k) (by omega), shr32 x k hk, or32]
  have e2 : UInt32.ofNat (32 - k) = 32 - UInt32.ofNat k := by
    apply UInt32.toNat_inj.1
    rw [UInt32.toNat_sub_of_le]
    · simp [UInt32.toNat_ofNat']; omega
    · rw [UInt32.le_iff_toNat_le]; simp [UInt32.toNat_ofNat']; omega
  rw [e2]
  unfold Sha.rotr
  rw [UInt32.or_comm]
theorem ret_int {k : IntKind} {a b : Int} (h : a = b) : Ending.returned (.int k a) = .returned (.int k b) := by rw [h]
set_option maxHeartbeats 400000 in
theorem rotl_any (x : UInt32) (k : Nat) (w : World) (h0 : 0 < k) (hk : k < 32) :
    Calls Tryd.prog 81 #[.int .u32 x.toNat, .int .i64 (-k)] w fun e w' => e = .returned (.int .u32 (Sha.rotr x (UInt32.ofNat k)).toNat) ∧ w = w' := by
  have h := rot_mask ⟨k, hk⟩
  simp only [if_neg (show ¬ k = 0 by omega)] at h
  have hx : (x.toNat : Int) < 4294967296 := by have := x.toNat_lt; omega
  have hx : 0 ≤ (x.toNat : Int) := by omega
  have h1 : (0 : Int) ≤ 32 - k := by omega
  have h2 : 32 - (k : Int) ≤ 32 := by omega
  go_enter Tryd.func81, Tryd.ntmps81
  go_wp2
  go_ret
  exact ⟨ret_int (rot_fold x k h0 hk), rfl⟩
set_option maxHeartbeats 400000 in
theorem mix_any (x : UInt32) (i j k : Nat) (w : World) (hi : 0 < i ∧ i < 32) (hj : 0 < j ∧ j < 32) (hk : 0 < k ∧ k < 32) :
    Calls Tryd.prog 77 #[.int .u32 x.toNat, .int .i64 i, .int .i64 j, .int .i64 k] w fun e w' =>
      e = .returned (.int .u32 (Sha.rotr x (UInt32.ofNat i) ^^^ Sha.rotr x (UInt32.ofNat j) ^^^ Sha.rotr x (UInt32.ofNat k)).toNat) ∧ w = w' := by
  obtain ⟨hi0, hi1⟩ := hi
  obtain ⟨hj0, hj1⟩ := hj
  obtain ⟨hk0, hk1⟩ := hk
  go_enter Tryd.func77, Tryd.ntmps77
  go_wp2_with fail
  ((with_reducible refine (rotl_any x i w (by omega) (by omega)).mono ?_); rintro e w' ⟨rfl, rfl⟩)
  go_wp2_with fail
  ((with_reducible refine (rotl_any x j w (by omega) (by omega)).mono ?_); rintro e w' ⟨rfl, rfl⟩)
  go_wp2_with fail
  ((with_reducible refine (rotl_any x k w (by omega) (by omega)).mono ?_); rintro e w' ⟨rfl, rfl⟩)
  go_wp2_with fail
  go_ret
  exact ⟨ret_int (by rw [xor32, xor32]), rfl⟩
theorem rotl7 (x : UInt32) (w : World) : Calls Tryd.prog 81 #[.int .u32 x.toNat, .int .i64 (-7)] w fun e w' => e = .returned (.int .u32 (Sha.rotr x 7).toNat) ∧ w = w' :=
  rotl_any x 7 w (by omega) (by omega)
theorem rotl18 (x : UInt32) (w : World) : Calls Tryd.prog 81 #[.int .u32 x.toNat, .int .i64 (-18)] w fun e w' => e = .returned (.int .u32 (Sha.rotr x 18).toNat) ∧ w = w' :=
  rotl_any x 18 w (by omega) (by omega)
theorem rotl17 (x : UInt32) (w : World) : Calls Tryd.prog 81 #[.int .u32 x.toNat, .int .i64 (-17)] w fun e w' => e = .returned (.int .u32 (Sha.rotr x 17).toNat) ∧ w = w' :=
  rotl_any x 17 w (by omega) (by omega)
theorem rotl19 (x : UInt32) (w : World) : Calls Tryd.prog 81 #[.int .u32 x.toNat, .int .i64 (-19)] w fun e w' => e = .returned (.int .u32 (Sha.rotr x 19).toNat) ∧ w = w' :=
  rotl_any x 19 w (by omega) (by omega)
theorem mix6 (x : UInt32) (w : World) : Calls Tryd.prog 77 #[.int .u32 x.toNat, .int .i64 6, .int .i64 11, .int .i64 25] w fun e w' => e = .returned (.int .u32 (Sha.bs1 x).toNat) ∧ w = w' :=
  mix_any x 6 11 25 w (by omega) (by omega) (by omega)
theorem mix2 (x : UInt32) (w : World) : Calls Tryd.prog 77 #[.int .u32 x.toNat, .int .i64 2, .int .i64 13, .int .i64 22] w fun e w' => e = .returned (.int .u32 (Sha.bs0 x).toNat) ∧ w = w' :=
  mix_any x 2 13 22 w (by omega) (by omega) (by omega)
end Go.Proofs.YtmbldnahcmkpgaaDoor
