/- hash: the contracts of Begin, Add, Sum, wire.Bytes over abstract values. hash.Of. hash.Mac. dioramaref02: the small functions. dioramaref02: padded, words. dioramaref02.words. Disks as abstract values; the small methods. -/
import Derived.Test.YtmbldnahcmkpgaaDoorFd
import Derived.Test.YtmbldnahcmkpgaaDoorGc
import Derived.Test.YtmbldnahcmkpgaaDoorTy
import Derived.Test.YtmbldnahcmkpgaaDoorGb
set_option linter.unusedSimpArgs false
set_option linter.unusedVariables false
/- Ib -/
namespace Go.Proofs.YtmbldnahcmkpgaaDoor
open Go.V Go.RowKit Go.U Go.L
def u8A (n : Nat) (l : List UInt8) : AV := .arr n 1 (fun i => .int .u8 ((l.getD i 0).toNat : Nat))
def u32A (n : Nat) (l : List UInt32) : AV := .arr n 1 (fun i => .int .u32 ((l.getD i 0).toNat : Nat))
def bytesA (fr : Bool) (l : List UInt8) : AV := .rsl fr l.length 1 (fun i => .int .u8 ((l.getD i 0).toNat : Nat))
def gK : Asc := [(2, u32A 64 Sha.kTab)]
theorem rep_u8A {c : Ctx} {n : Nat} {l : List UInt8} (h : l.length = n) {vs : List Value} : Rep c (u8A n l) .C vs ↔ vs = u8s l :=
  rep_arr1 (u8s l) (by simp [u8s, h]) fun i hi ws => by
    have hi' : i < l.length := by simpa [u8s] using hi
    simp [u8s, Rep, hi']
theorem rep_u32A {c : Ctx} {n : Nat} {l : List UInt32} (h : l.length = n) {vs : List Value} : Rep c (u32A n l) .C vs ↔ vs = u32s l :=
  rep_arr1 (u32s l) (by simp [u32s, h]) fun i hi ws => by
    have hi' : i < l.length := by simpa [u32s] using hi
    simp [u32s, Rep, hi']
theorem rep_arrV {c : Ctx} {n : Nat} {l : List UInt8} (h : l.length = n) {v : Value} : Rep c (u8A n l) .V [v] ↔ v = .agg (u8s l).toArray := by
  constructor
  · rintro ⟨xs, e, h1, h2⟩
    have := (rep_u8A (c := c) h).1 ⟨h1, h2⟩
    rw [← this]; simpa using e
  · rintro rfl
    obtain ⟨h1, h2⟩ := (rep_u8A (c := c) h).2 rfl
    exact ⟨_, rfl, h1, h2⟩
theorem ktab_of {c : Ctx} (hc : CtxOk c) (hg : ∀ x v, get? gK x = some v → Rep c (.rptr false v) .V [.pointer (some ⟨x, 0, none⟩)]) : KTab c.w 2 := by
  obtain ⟨b, o, xs, e, hS, _, hcl, hx⟩ := hg 2 _ (by rfl)
  simp only [List.cons.injEq, Value.pointer.injEq, Option.some.injEq, Addr.mk.injEq, and_true] at e
  obtain ⟨rfl, rfl⟩ := e
  have := (rep_u32A (n := 64) (l := Sha.kTab) (by rfl)).1 hx
  subst this
  exact ⟨hc.S _ hS, fun j u hu => by have := hcl j u hu; rwa [Nat.zero_add] at this⟩
theorem rd_of {c : Ctx} (hc : CtxOk c) {fr : Bool} {l : List UInt8} {v : Value} (h : Rep c (bytesA fr l) .V [v]) : Rd c.w c.w.heap.size v l.length (u8s l) := by
  obtain ⟨a, cap, e, h1, h2, h3⟩ := h
  simp only [List.cons.injEq, and_true] at e
  subst e
  refine ⟨a, cap, rfl, by omega, fun hne => ?_⟩
  rcases h3 with h3 | ⟨b, o, xs, rfl, hS, _, hcl, hx⟩
  · rw [List.length_eq_zero_iff.1 h3] at hne; exact absurd rfl hne
  · have := (rep_u8A (c := c) rfl).1 hx
    subst this
    exact ⟨b, o, rfl, hc.S b hS, hcl⟩
theorem sum_ok (fr : Bool) (m : List UInt8) (hl : m.length ≤ 1099511627000) : Ok Tryd.prog 47 gK [] (.pair (bytesA fr m) .nul) (fun r h' => r = u8A 32 (Sha.sum m) ∧ h' = []) :=
  Ok.of_calls fun c vs hc hB hg hvs => by
    obtain ⟨x, y, rfl, h1, h3⟩ := hvs
    have h3 : y = [] := h3
    subst h3
    refine (sum_any _ m c.w _ (rd_of hc h1) (Nat.le_refl _) hl (ktab_of hc hg)).mono fun e w' h => ?_
    obtain ⟨rfl, hbl⟩ := h
    exact ⟨hbl, _, _, rfl, ⟨rfl, rfl⟩, (rep_arrV (n := 32) (l := Sha.sum m) rfl).2 rfl⟩
end Go.Proofs.YtmbldnahcmkpgaaDoor
/- Ic -/
namespace Go.Proofs.YtmbldnahcmkpgaaDoor
open Go.V Go.RowKit Go.U Go.L
theorem gK_ok : GOk gK := by
  intro x v h
  unfold gK at h
  rw [get?_cons] at h
  split at h
  · cases h; exact ⟨fun i hi => trivial, fun i hi => trivial⟩
  · cases h
end Go.Proofs.YtmbldnahcmkpgaaDoor
/- Id -/
namespace Go.Proofs.YtmbldnahcmkpgaaDoor
open Go.V Go.RowKit Go.U Go.L
end Go.Proofs.YtmbldnahcmkpgaaDoor
/- Ie -/
namespace Go.Proofs.YtmbldnahcmkpgaaDoor
open Go.V Go.RowKit Go.U Go.L
end Go.Proofs.YtmbldnahcmkpgaaDoor
/- If -/
namespace Go.Proofs.YtmbldnahcmkpgaaDoor
open Go.V Go.RowKit Go.U Go.L
/-- The padding, zeros so far. -/
def pz (m : List UInt8) (k : Nat) : List UInt8 := m ++ 128 :: List.replicate k 0
def pb (m : List UInt8) (k : Nat) : List UInt8 := pz m (Sha.zeros m.length) ++ (Sha.be64 (8 * m.length)).take k
end Go.Proofs.YtmbldnahcmkpgaaDoor
/- Ig -/
namespace Go.Proofs.YtmbldnahcmkpgaaDoor
open Go.V Go.RowKit Go.U Go.L
end Go.Proofs.YtmbldnahcmkpgaaDoor

namespace Go.Proofs.YtmbldnahcmkpgaaDoor
open Go.V Go.RowKit Go.L Go.Dk
def KI (n : Int) : AV := .int .i64 n
def kvI (n : Int) : Value := .int .i64 n
def blkA (b : Bs) : AV := .arr 64 1 (fun i => .int .u8 ((b.getD i 0).toNat : Nat))
def VB (b : Bool) : AV := .bool b
def pendA (P : PM) : AV := moL KI blkA (0, []) P
def wornA (W : WM) : AV := moL KI VB (0, false) W
abbrev blksA (n : Nat) (B : List Bs) : AV := .arr n 64 (fun i => blkA (B.getD i []))
abbrev dskA (n : Nat) (a b c : Nat) (off : Bool) (left : Int) : AV := .pair (.sl a [] 64 0 n) (.pair (.mp b) (.pair (.mp c) (.pair (.bool off) (.pair (.int .i64 left) .nul))))
/-- A disk in the objects 0 to 3. -/
abbrev dH (n : Nat) (B : List Bs) (P : PM) (W : WM) (off : Bool) (left : Int) : Asc := [(0, dskA n 1 2 3 off left), (1, blksA n B), (2, pendA P), (3, wornA W)]
/-- The error of a sector's number. -/
def chk (n : Nat) (off : Bool) (i : Int) : Int := if off = true then 20 else if bad n i then 1 else 0
/-- The error of a step. -/
def stpE (left : Int) : Int := if left = 0 then 20 else 0
def stpO (off : Bool) (left : Int) : Bool := if left = 0 then true else off
def stpL (left : Int) : Int := if 0 < left then left - 1 else left
def i64B (n : Int) : Prop := -9223372036854775808 ≤ n ∧ n ≤ 9223372036854775807
theorem u_int : Tryd.prog.underlying 3 = some (.int .i64) := by kernel_rfl
theorem u_pend : Tryd.prog.underlying 69 = some (.map 3 98) := by kernel_rfl
theorem u_worn : Tryd.prog.underlying 70 = some (.map 3 4) := by kernel_rfl
theorem z_blk : ∀ ti, tget TT 98 = some ti → zB Tryd.prog 98 ti = true := by
  intro ti h
  cases h
  kernel_rfl
theorem z_bool : ∀ ti, tget TT 4 = some ti → zB Tryd.prog 4 ti = true := by
  intro ti h
  cases h
  kernel_rfl
theorem keyI : KeyK Tryd.prog 3 KI kvI := key_int u_int
variable {n : Nat} {B : List Bs} {P : PM} {W : WM} {off : Bool} {left : Int}
theorem check_ok (i : Int) : Ok Tryd.prog 51 [] (dH n B P W off left) (.pair (.ptr 0 []) (.pair (.int .i64 i) .nul)) (fun r h' => r = .int .i64 (chk n off i) ∧ h' = dH n B P W off left) := by
  refine Ok.of_vc tt_ok Tryd.func51 rfl rfl (by show 2 ≤ _; decide) 4 (hlt_ok (by rfl)) fun c0 => ?_
  repeat' (first | (refine SS_ ?_) | (refine VC.litT (by rfl) LTR_ ?_) | (refine Seq.litC (by rfl) (by rfl) (fun hb => ?_) (fun hb => ?_) <;> (fail_if_success (with_reducible have := litT_ hb)) <;> (fail_if_success (with_reducible have := litF_ hb)) <;> (try simp only [HB_] at hb) <;> (try (exfalso; first | omega | (cases hb; done)))) | (refine VC.cond (by rfl) (fun hb => ?_) (fun hb => ?_) <;> (fail_if_success (with_reducible have := litT_ hb)) <;> (fail_if_success (with_reducible have := litF_ hb)) <;> (try simp only [HB_] at hb) <;> (try (exfalso; first | omega | (cases hb; done)))) | fail)
  all_goals (refine retQ_ok (by rfl) (dH n B P W off left) (subL_ok ⟨rfl, rfl, rfl, rfl, trivial⟩) ⟨congrArg (AV.int .i64) ?_, rfl⟩; unfold chk bad)
  · rw [if_pos hb]
  · rename_i h1; simp [h1, hb]
  · rename_i h1 h2; simp [h1, hb]
  · rename_i h1 h2; simp [h1]; omega
theorem step_ok (hl : i64B left) : Ok Tryd.prog 67 [] (dH n B P W off left) (.pair (.ptr 0 []) .nul) (fun r h' => r = .int .i64 (stpE left) ∧ h' = dH n B P W (stpO off left) (stpL left)) := by
  obtain ⟨hl1, hl2⟩ := hl
  refine Ok.of_vc tt_ok Tryd.func67 rfl rfl (by show 1 ≤ _; decide) 4 (hlt_ok (by rfl)) fun c0 => ?_
  repeat' (first | (refine SS_ ?_) | (refine VC.cond (by rfl) (fun hb => ?_) (fun hb => ?_) <;> (fail_if_success (with_reducible have := litT_ hb)) <;> (fail_if_success (with_reducible have := litF_ hb)) <;> (try simp only [HB_] at hb) <;> (try (exfalso; first | omega | (cases hb; done)))) | fail)
  · refine retQ_ok (by rfl) (dH n B P W true left) (subL_ok ⟨rfl, rfl, rfl, rfl, trivial⟩) ⟨congrArg (AV.int .i64) ?_, ?_⟩
    · rw [stpE, if_pos hb]
    · rw [stpO, if_pos hb, stpL, if_neg (by omega)]
  · refine retQ_ok (by rfl) (dH n B P W off (left - 1)) (subL_ok ⟨rfl, rfl, rfl, rfl, trivial⟩) ⟨congrArg (AV.int .i64) ?_, ?_⟩
    · rw [stpE, if_neg (by omega)]
    · rw [stpO, if_neg (by omega), stpL, if_pos hb]
  · refine retQ_ok (by rfl) (dH n B P W off left) (subL_ok ⟨rfl, rfl, rfl, rfl, trivial⟩) ⟨congrArg (AV.int .i64) ?_, ?_⟩
    · rw [stpE, if_neg (by omega)]
    · rw [stpO, if_neg (by omega), stpL, if_neg hb]
theorem len_ok' : Ok Tryd.prog 32 [] (dH n B P W off left) (.pair (.ptr 0 []) .nul) (fun r h' => r = .int .i64 n ∧ h' = dH n B P W off left) := by
  refine Ok.of_vc tt_ok Tryd.func32 rfl rfl (by show 1 ≤ _; decide) 4 (hlt_ok (by rfl)) fun c0 => ?_
  repeat' (first | (refine SS_ ?_) | fail)
  exact retQ_ok (by rfl) (dH n B P W off left) (subL_ok ⟨rfl, rfl, rfl, rfl, trivial⟩) ⟨rfl, rfl⟩
set_option maxRecDepth 10000 in
theorem wear_ok (i : Int) : Ok Tryd.prog 14 [] (dH n B P W off left) (.pair (.ptr 0 []) (.pair (.int .i64 i) .nul)) (fun r h' => r = .int .i64 (if bad n i then 1 else 0) ∧ h' = dH n B P (if bad n i then W else mSet W i true) off left) := by
  refine Ok.of_vc tt_ok Tryd.func14 rfl rfl (by show 2 ≤ _; decide) 4 (hlt_ok (by rfl)) fun c0 => ?_
  repeat' (first | (refine SS_ ?_) | (refine Seq.eff (mapUpdate_ok (K := KI) (V := VB) (u := true) (l := W) (k := i) u_worn keyI (by rfl) (by rfl) (by rfl) (by rfl)) (by rfl) (by rfl) ?_) | (refine VC.litT (by rfl) LTR_ ?_) | (refine Seq.litC (by rfl) (by rfl) (fun hb => ?_) (fun hb => ?_) <;> (fail_if_success (with_reducible have := litT_ hb)) <;> (fail_if_success (with_reducible have := litF_ hb)) <;> (try simp only [HB_] at hb) <;> (try (exfalso; first | omega | (cases hb; done)))) | (refine VC.cond (by rfl) (fun hb => ?_) (fun hb => ?_) <;> (fail_if_success (with_reducible have := litT_ hb)) <;> (fail_if_success (with_reducible have := litF_ hb)) <;> (try simp only [HB_] at hb) <;> (try (exfalso; first | omega | (cases hb; done)))) | fail)
  · refine retQ_ok (by rfl) (dH n B P W off left) (subL_ok ⟨rfl, rfl, rfl, rfl, trivial⟩) ⟨congrArg (AV.int .i64) ?_, ?_⟩
    · rw [if_pos (.inl hb)]
    · rw [if_pos (.inl hb)]
  · refine retQ_ok (by rfl) (dH n B P W off left) (subL_ok ⟨rfl, rfl, rfl, rfl, trivial⟩) ⟨congrArg (AV.int .i64) ?_, ?_⟩
    · rw [if_pos (.inr hb)]
    · rw [if_pos (.inr hb)]
  · rename_i h1
    refine retQ_ok (by rfl) (dH n B P (mSet W i true) off left) (subL_ok ⟨rfl, rfl, rfl, rfl, trivial⟩) ⟨congrArg (AV.int .i64) ?_, ?_⟩
    · rw [if_neg (by unfold bad; omega)]
    · rw [if_neg (by unfold bad; omega)]
end Go.Proofs.YtmbldnahcmkpgaaDoor
