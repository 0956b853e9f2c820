/- Draws: tries, below. Draws: Num. A map's keys, sorted by the library: the kit's contract as one over abstract values. slices.Sort over an own slice of numbers: the kit's contract as one over abstract values. Tables of private originals: the plain law. -/
import Derived.Test.YtdbebdjnpckfdaaDoorMb
import Derived.Test.YtdbebdjnpckfdaaDoorFs
import Derived.Test.YtdbebdjnpckfdaaDoorFt
import Derived.Test.YtdbebdjnpckfdaaDoorFe
import Derived.Shelf.SlIterI.Nil
import Derived.Shelf.SortM.Plain
import Derived.Shelf.SortM.SortNone
import Derived.Test.YtdbebdjnpckfdaaDoorNb
set_option linter.unusedSimpArgs false
set_option linter.unusedVariables false
namespace Go.Proofs.YtdbebdjnpckfdaaDoor
open Go.V Go.RowKit Go.U Go.L Go.Lx Go.Dw
set_option maxRecDepth 10000
set_option maxHeartbeats 4000000
abbrev trF (a b : Nat) : AV := .fn (.func 90) .nul (.pair (.ptr a []) (.pair (.ptr b []) .nul))
theorem tries_ok (seed : List UInt8) (path : List Int) : Ok Tryd.prog 83 [] [] (.pair (.str seed) (.pair (liV path) .nul)) (fun r h' => r = trF 0 1 ∧ h' = [(0, .str seed), (1, liV path)]) := by
  refine Ok.of_vcC tt_ok Tryd.func83 rfl rfl (by show 2 ≤ _; decide) 0 (hlt_ok (by rfl)) fun c0 => ?_
  repeat' (first | (refine SS_ ?_) | fail)
  (refine retC_mk ([(4, trF 0 1)]) ([(0, .str seed), (1, liV path)]) 2 (Sim.less [] (by rfl) R_ R_) (retQ_ok (by rfl) ([(0, .str seed), (1, liV path)]) (fun i av h => h) ⟨?_, ?_⟩)) <;> rfl
theorem below_ok (seed : List UInt8) (hs : seed.length ≤ 32) (path : List Int) (hp : path.length ≤ 8) (hI : ∀ i, I64 (path.getD i 0)) (n : Int) (hn : 1 ≤ n ∧ n ≤ 1099511627776) (hw : drw seed path 0 < 281474976710656 / n * n) : Ok Tryd.prog 66 gK [] (.pair (.str seed) (.pair (liV path) (.pair (.int .i64 n) .nul))) (fun r h' => r = .int .i64 (drw seed path 0 % n) ∧ h' = []) := by
  have c1 := word_ok seed hs path hp hI 0 ⟨by decide, by decide⟩
  have c2 := tries_ok seed path
  have hbd := drw_bd seed path 0
  have hq : 0 ≤ 281474976710656 / n ∧ 281474976710656 / n ≤ 281474976710656 := ⟨Int.ediv_nonneg (by decide) (by omega), Int.ediv_le_self _ (by decide)⟩
  have hq2 : 281474976710656 / n * n ≤ 281474976710656 := Int.ediv_mul_le _ (by omega)
  have hq3 : 0 ≤ 281474976710656 / n * n := Int.mul_nonneg hq.1 (by omega)
  generalize drw seed path 0 = w at *
  refine Ok.of_vcM tt_ok Tryd.func66 rfl rfl (by show 3 ≤ _; decide) 0 (hlt_ok (by rfl)) fun c0 => ?_
  refine VCX.seqV ?_
  repeat' (first | (refine SS_ ?_) | fail)
  refine VCX.seq (by rfl) (VCX.seqV ?_)
  repeat' (first | (refine SS_ ?_) | (refine Seq.callo false [] [(2, 0), (3, 1)] (trF 2 3) ([(2, .str seed), (3, liV path)]) 4 (c2) Tryd.func83 gK_ok subG.nil (by rfl) (by rfl) rfl rfl rfl rfl rfl (by rfl) rfl (by rfl) (by rfl) (by rfl) (by rfl) VW_ NI_ R_ (noFrL_ok NI_) BK_ ?_) | fail)
  refine VCX.block (by rfl) (VCX.range (by rfl) (by rfl) (by rfl) (by rfl) (by rfl) (by rfl) (by rfl) (by rfl) ?_)
  intro cc d b rec hrec
  repeat' (first | (refine SS_ ?_) | fail)
  refine VC.loop (fun _ : Nat => ⟨[(4, .int .i64 0), (2, .ptr 3 []), (1, .ptr 2 []), (0, .val (.func (.yield b) #[] #[]))], [(5, .ob b (.loop { rec with state := .ready, pending := none })), (4, .ob d (.deferred (some []))), (2, .str seed), (3, liV path), (1, .int .i64 0), (0, .int .i64 n)], gK, 6⟩) (fun x => x = 0) (fun x => x) 0 rfl (by
    exact (Sim.less [] (by rfl) R_ R_)
    all_goals rfl) fun x hx => ?_
  repeat' (first | (refine VC.regionY 5 (by rfl) ?_) | (first | with_reducible refine VC.seq ?_ | with_reducible refine VC.block ?_ | with_reducible refine VC.region ?_ | with_reducible refine VC.exit ?_ | with_reducible refine VC.ret ?_ | with_reducible refine VC.skip ?_ | with_reducible refine Seq.nil ?_ | with_reducible refine thenQ_n ?_ | with_reducible refine thenQ_r ?_ | with_reducible refine thenQ_e ?_ | with_reducible refine inQ_n ?_ | with_reducible refine inQ_r ?_ | with_reducible refine inQ_e ?_ | ((with_reducible refine inQ_o ?_ ?_); rfl) | (refine Seq.ev0 true tt_ok (by rfl) (by (first | exact trivial | exact u8_in _ rfl | exact u32_in _ rfl | ((with_reducible refine AllP.guard ?_); simp only [AllP, inI, fitV, maxK, inK, inbL, inb, List.append, List.cons_append, List.nil_append, true_and, and_true]; first | done | omega))) rfl rfl rfl ?_) | (refine Seq.ev true tt_ok (by rfl) (by (first | exact trivial | exact u8_in _ rfl | exact u32_in _ rfl | ((with_reducible refine AllP.guard ?_); simp only [AllP, inI, fitV, maxK, inK, inbL, inb, List.append, List.cons_append, List.nil_append, true_and, and_true]; first | done | omega))) rfl rfl rfl ?_) | (refine Seq.evn true tt_ok (by rfl) (by (first | exact trivial | exact u8_in _ rfl | exact u32_in _ rfl | ((with_reducible refine AllP.guard ?_); simp only [AllP, inI, fitV, maxK, inK, inbL, inb, List.append, List.cons_append, List.nil_append, true_and, and_true]; first | done | omega))) rfl ?_) | (refine Seq.pass (by rfl) rfl ?_)) | (refine Seq.callq false (c1) Tryd.func91 GG_ SG_ (by rfl) rfl rfl rfl (by rfl) rfl VW_ NI_ NI_ FR_ ?_) | fail)
  refine YTo.round (id := 5) hrec (by rfl) (by rfl) (by rfl) (by rfl) (by rfl) (by rfl) (by rfl) (by rfl) fun cy hcy => ?_
  repeat' (first | (refine SS_ ?_) | fail)
  refine ⟨by rfl, ?_⟩
  repeat' (first | (refine SS_ ?_) | (refine VC.drawm (id := 3) [(0, 0), (1, 0), (2, 2), (3, 0), (4, 14), (5, 31)] [] (by rfl) (by kernel_rfl) (by rfl) ?_) | (refine VC.litT (by rfl) LTR_ ?_) | (refine DD_ ?_) | fail)
  refine ⟨some .ret, by rfl, by rfl, ?_⟩
  repeat' (first | (refine SS_ ?_) | (refine VC.litF (by rfl) LFA_ ?_) | fail)
  refine ⟨.inr rfl, some .ret, .done, .ret, (fun h => by cases h), rfl, by rfl, fun cf => ?_⟩
  refine retM_one 4 d (by rfl) (by rfl) rfl ?_
  exact retC_mk [(6, .ptr 1 [])] [(1, .int .i64 (w % n))] 6 (Sim.less [] (by rfl) R_ R_) (retQ_ok (by rfl) [] nil_sub ⟨rfl, rfl⟩)
end Go.Proofs.YtdbebdjnpckfdaaDoor

namespace Go.Proofs.YtdbebdjnpckfdaaDoor
open Go.V Go.RowKit Go.U Go.L Go.Lx Go.Dw
set_option maxRecDepth 10000
set_option maxHeartbeats 4000000
theorem dvalid_ok (seed : List UInt8) (hs : seed.length ≤ 32) (path : List Int) (hp : path.length ≤ 8) : Ok Tryd.prog 65 [] [] (.pair (.str seed) (.pair (liV path) .nul)) (fun r h' => r = .bool true ∧ h' = []) := by
  refine Ok.of_vcC tt_ok Tryd.func65 rfl rfl (by show 2 ≤ _; decide) 0 (hlt_ok (by rfl)) fun c0 => ?_
  repeat' (first | (refine SS_ ?_) | (refine Seq.lit (by rfl) (by rfl) LT2_ ?_) | fail)
  (refine retC_mk ([(4, .bool (decide ((path.length : Int) ≤ 8)))]) ([]) 0 (Sim.less [] (by rfl) R_ R_) (retQ_ok (by rfl) ([]) (fun i av h => h) ⟨?_, ?_⟩))
  · exact congrArg AV.bool (decide_eq_true (by omega))
  · rfl
theorem num_ok (seed : List UInt8) (hs : seed.length ≤ 32) (path : List Int) (hp : path.length ≤ 8) (hI : ∀ i, I64 (path.getD i 0)) (n : Int) (hn : 1 ≤ n ∧ n ≤ 1099511627776) (hw : drw seed path 0 < 281474976710656 / n * n) : Ok Tryd.prog 51 gK [] (.pair (.str seed) (.pair (liV path) (.pair (.int .i64 n) .nul))) (fun r h' => r = .tup (.pair (.int .i64 (drw seed path 0 % n)) (.pair (.int .i64 0) .nul)) ∧ h' = []) := by
  have c1 := dvalid_ok seed hs path hp
  have c2 := below_ok seed hs path hp hI n hn hw
  generalize drw seed path 0 % n = x at *
  refine Ok.of_vcG tt_ok 64 Tryd.func51 rfl rfl (by show 3 ≤ _; decide) 0 (hlt_ok (by rfl)) fun c0 => ?_
  refine VCX.seqV ?_
  repeat' (first | (refine SS_ ?_) | fail)
  refine VCX.seqV ?_
  repeat' (first | (refine SS_ ?_) | (refine Seq.lit (by rfl) (by rfl) LT2_ ?_) | fail)
  refine VCX.deferR 3 (by rfl) ?_
  repeat' (first | (refine SS_ ?_) | fail)
  refine ⟨rfl, _, by rfl, fun c vs hvs => ?_⟩
  repeat' (first | (refine SS_ ?_) | (refine Seq.lit (by rfl) (by rfl) LT2_ ?_) | (refine Seq.callq false (c1) Tryd.func65 GG_ SG_ (by rfl) rfl rfl rfl (by rfl) rfl VW_ NI_ NI_ FR_ ?_) | (refine Seq.callq false (c2) Tryd.func66 GG_ SG_ (by rfl) rfl rfl rfl (by rfl) rfl VW_ NI_ NI_ FR_ ?_) | (refine VC.litT (by rfl) LTR_ ?_) | fail)
  refine .inr ⟨vs, _, rfl, hvs, idle_mk Tryd.func64 rfl (by decide) rfl (by show 4 ≤ _; decide) rfl fun c3 => ?_, ?_⟩
  · repeat' (first | (refine SS_ ?_) | (refine Seq.callq false (c1) Tryd.func65 GG_ SG_ (by rfl) rfl rfl rfl (by rfl) rfl VW_ NI_ NI_ FR_ ?_) | (refine VC.litF (by rfl) LFA_ ?_) | fail)
    exact ⟨.inl rfl, rfl, fun i av h => h⟩
  · refine retC_mk [(6, .int .i64 x), (7, .ptr 0 [])] [(0, .int .i64 0)] 1 (Sim.less [] (by rfl) R_ R_) (retQ_ok (by rfl) [] nil_sub ⟨rfl, rfl⟩)
end Go.Proofs.YtdbebdjnpckfdaaDoor

namespace Go.V
open Go.RowKit Go.L Go.Maps Go.Proofs Go.Shelf
theorem Out.later {c : Ctx} {h : Asc} {w' : World} (hh : HeapRep c h) (hc : CtxOk c) (hB : c.B = c.w.heap.size) (hb : Below c.w.heap.size c.w w') : Out c h h [] (Later c w') := by
  have h0 := out_later hc hB hb
  refine ⟨h0.le, h0.B, h0.A, ⟨fun id av hi => hh.A id av hi, fun id av hi hg => ?_, fun id av hi hg => hh.gh id av hi hg, fun id av hi hg hS => ?_, fun i j a b hi hj hgi hgj e => hh.inj i j a b hi hj hgi hgj e⟩, h0.ok, h0.os, h0.tape, h0.output, h0.size, fun b hb' _ => hb.block b hb', fun id av hi hg => .inl ⟨id, av, hi, hg, rfl⟩, fun b hS => ?_⟩
  · exact (hh.obj id av hi hg).le h0.le (hb.block _ (hh.obj id av hi hg).lt)
  · have hlt := (hh.obj id av hi hg).lt
    rcases hS with hS | hS
    · exact hh.nS id av hi hg hS
    · have : c.w.heap.size ≤ c.ρ id := hS.1
      omega
  · rcases hS with hS | hS
    · exact .inl hS
    · exact .inr (.inl hS.1)
end Go.V

namespace Go.V
open Go.RowKit Go.L Go.Maps Go.Proofs Go.Shelf Go.Sort
abbrev intO (l : List Int) : AV := .arr l.length 1 (fun i => .int .i64 (l.getD i 0))
def srt (l : List Int) : List Int := l.mergeSort fun x y => decide (x ≤ y)
theorem srt_len (l : List Int) : (srt l).length = l.length := (List.mergeSort_perm _ _).length_eq
theorem ints_of {c : Ctx} {l : List Int} {xs : List Value} (h : Rep c (intO l) .C xs) : xs = l.map (Value.int .i64) := by
  obtain ⟨hl, h⟩ := h
  rw [Nat.mul_one] at hl
  refine List.ext_getElem (by rw [hl, List.length_map]) fun i h1 h2 => ?_
  have hi : i < l.length := by omega
  have h3 : sub xs (i * 1) 1 = [.int .i64 (l.getD i 0)] := h i hi
  have h4 := congrArg (fun q => q[0]?) h3
  rw [Nat.mul_one] at h4
  simp only [sub_get, Nat.add_zero, Nat.lt_one_iff, if_true, List.getElem?_cons_zero] at h4
  rw [List.getElem?_eq_getElem h1, List.getD_eq_getElem?_getD, List.getElem?_eq_getElem hi, Option.getD_some] at h4
  rw [List.getElem_map]
  exact Option.some.inj h4
theorem rep_ints (c : Ctx) (l : List Int) : Rep c (intO l) .C (l.map (Value.int .i64)) := by
  refine ⟨by simp, fun i hi => ?_⟩
  show sub (l.map (Value.int .i64)) (i * 1) 1 = [.int .i64 (l.getD i 0)]
  apply List.ext_getElem?
  intro j
  rw [sub_get, Nat.mul_one]
  split
  · obtain rfl : j = 0 := by omega
    simp [hi]
  · rw [List.getElem?_eq_none (by simp; omega)]
theorem sort_ok {P : Program} {f : FuncId}
    (H : ∀ (blk off cap : Nat) (zs : List Int) (w : World), Holds (Value.int .i64) w blk off zs.toArray → blk < w.heap.size → zs.length < 4611686018427387904 →
      Calls P f #[.slice (some ⟨blk, off, none⟩) zs.length cap] w fun e w' => e = .returned (.tuple #[]) ∧ ∃ n os, w' = grow (putRow (Value.int .i64) (Sort.ahead w n) blk off (zs.mergeSort fun x y => decide (x ≤ y)).toArray) os)
    (H0 : ∀ (p : Option Addr) (cap : Nat) (w : World), Calls P f #[.slice p 0 cap] w fun e w' => e = .returned (.tuple #[]) ∧ w' = w) (l : List Int) (hl : l.length < 4611686018427387904) :
    Ok P f [] [(0, intO l)] (.pair (.sl 0 [] 1 0 l.length) .nul) (fun r h' => r = .tup .nul ∧ h' = [(0, intO (srt l))]) := by
  intro c hg hh hc hB hA vs hvs
  obtain ⟨v, vs', rfl, hv, hnul⟩ := hvs
  have hnul : vs' = [] := hnul
  subst hnul
  have hempty : ∀ (p : Option Addr) (cap : Nat), l = [] → v = .slice p 0 cap → Calls P f [v].toArray c.w fun e w' => ∃ c' v' r h' ns, e = .returned v' ∧ c'.w = w' ∧ Out c [(0, intO l)] h' ns c' ∧ Rep c' r .V [v'] ∧ (r = .tup .nul ∧ h' = [(0, intO (srt l))]) := by
    rintro p cap rfl rfl
    refine (H0 p cap c.w).mono fun e w' h => ?_
    obtain ⟨rfl, rfl⟩ := h
    exact ⟨c, _, .tup .nul, _, [], rfl, rfl, Out.refl hh hc, ⟨[], rfl, rfl⟩, rfl, by rw [show srt [] = [] from List.Perm.eq_nil (List.mergeSort_perm _ _)]⟩
  obtain ⟨hA0, ⟨_, hz, ad, hvv⟩ | ⟨hG, o, cap, hvv, ho2, h3, h4, h5⟩⟩ := rep_sl hv
  · exact hempty ad 0 (List.length_eq_zero_iff.1 hz) hvv
  by_cases hl0 : l = []
  · subst hl0
    exact hempty _ cap rfl hvv
  have hpos : 0 < l.length := List.length_pos_iff.2 hl0
  obtain rfl : o = 0 := by
    rcases ho2 with h | h
    · omega
    · simpa [pathOff] using h
  subst hvv
  obtain ⟨cs, t0, xs, ys, hblk, rfl, hr⟩ := (hh.obj 0 _ rfl hG).cells rfl
  have hxs := ints_of hr
  subst hxs
  have hHolds : Holds (Value.int .i64) c.w (c.ρ 0) 0 l.toArray := fun j hj => by
    have hj : j < l.length := by simpa using hj
    refine ⟨?_, hblk.free (by simp; omega)⟩
    rw [Nat.zero_add]
    refine hblk.cell ?_
    rw [List.getElem?_append_left (by simpa using hj)]
    simp [hj]
  refine (H (c.ρ 0) 0 cap l c.w hHolds hblk.lt hl).mono fun e w' h => ?_
  obtain ⟨rfl, n, os, rfl⟩ := h
  show ∃ c' v' r h' ns, _
  obtain ⟨w1, hw1⟩ : ∃ w1, w1 = putRow (Value.int .i64) (Sort.ahead c.w n) (c.ρ 0) 0 (srt l).toArray := ⟨_, rfl⟩
  have hoth : ∀ b, b ≠ c.ρ 0 → w1.heap[b]? = c.w.heap[b]? := fun b hb => by
    rw [hw1]
    show (c.w.heap.modify _ _)[b]? = _
    rw [Array.getElem?_modify, if_neg (Ne.symm hb)]
  have hsz : w1.heap.size = c.w.heap.size := by rw [hw1, size_putRow]; rfl
  have hb1 : Blk w1 (c.ρ 0) ((srt l).map (Value.int .i64) ++ ys) t0 := by
    obtain ⟨fz, hb, hf⟩ := hblk
    refine ⟨fz, ?_, ?_⟩
    · rw [hw1]
      show (c.w.heap.modify _ _)[c.ρ 0]? = _
      rw [Array.getElem?_modify, if_pos rfl, hb]
      show some (Obj.cells (putCells (Value.int .i64) 0 (srt l).toArray _) t0 fz) = _
      congr 2
      apply Array.ext_getElem?
      intro k
      simp only [putCells, Array.getElem?_mapIdx, List.getElem?_toArray, Nat.zero_le, true_and, Nat.zero_add, Nat.sub_zero, List.size_toArray, srt_len]
      by_cases hk : k < l.length
      · rw [List.getElem?_append_left (by simpa using hk), List.getElem?_append_left (by rw [List.length_map, srt_len]; exact hk)]
        have hk2 : k < (srt l).length := by rw [srt_len]; exact hk
        simp [hk, hk2]
      · rw [List.getElem?_append_right (by simp; omega), List.getElem?_append_right (by rw [List.length_map, srt_len]; omega)]
        simp [hk, srt_len]
    · rcases hf with hf | hf
      · exact .inl hf
      · right
        simp only [List.length_append, List.length_map, srt_len] at hf ⊢
        exact hf
  have ho1 : Out c [(0, intO l)] (put [(0, intO l)] 0 (intO (srt l))) [] { c with w := w1 } := by
    refine Out.write hh hc rfl hG (by rw [hw1]; rfl) (by rw [hw1]; rfl) (by rw [hw1]; rfl) hsz ?_ hoth fun c' hc' hle => ?_
    · obtain ⟨fz, hb⟩ := hblk.at
      obtain ⟨fz1, hb1⟩ := hb1.at
      unfold bsize
      rw [hb, hb1]
      simp [srt_len]
    · subst hc'
      exact .inl ⟨_, t0, _, ys, hb1, rfl, rep_ints _ _⟩
  have hbel : Below w1.heap.size w1 (grow w1 os) := ⟨rfl, rfl, rfl, by rw [size_grow]; omega, fun k hk => by
    show (w1.heap ++ os)[k]? = _
    rw [Array.getElem?_append_left hk]⟩
  have ho2 := Out.later (c := { c with w := w1 }) ho1.heap ho1.ok (by show c.B = _; rw [hsz]; exact hB) hbel
  have hw2 : grow (putRow (Value.int .i64) (Sort.ahead c.w n) (c.ρ 0) 0 (l.mergeSort fun x y => decide (x ≤ y)).toArray) os = grow w1 os := by rw [hw1]; rfl
  rw [hw2]
  have hput : put [(0, intO l)] 0 (intO (srt l)) = [(0, intO (srt l))] := rfl
  exact ⟨Later { c with w := w1 } (grow w1 os), _, .tup .nul, _, [], rfl, rfl, hput ▸ ho1.trans ho2, ⟨[], rfl, rfl⟩, rfl, rfl⟩
end Go.V

namespace Go.Rl
open Go.V Go.Lx
structure Row where
  p : Int
  V : List Int
abbrev rowZ : Row := ⟨0, []⟩
structure Tab where
  S : List Int
  R : List Row
def badS (S : List Int) : Bool := S.any fun n => decide (n < 1 ∨ 12 < n)
def badV (S V : List Int) : Bool := (List.range V.length).any fun k => decide (V.getD k 0 < 0 ∨ S.getD k 0 ≤ V.getD k 0)
def badR (S : List Int) (r : Row) : Bool := decide (r.p < 0 ∨ 65535 < r.p ∨ r.V.length ≠ S.length) || badV S r.V
def ps (R : List Row) : List Int := R.map (·.p)
/-- The error of a table. -/
def okE (t : Tab) : Int :=
  if 8 < t.S.length ∨ 64 < t.R.length then 4
  else if badS t.S = true ∨ t.R.any (badR t.S) = true then 1
  else if (ps t.R).Nodup then 0 else 7
def pers (t : Tab) : List Int := if okE t = 0 then srt (ps t.R) else []
def wo (t : Tab) (p : Int) : Tab := ⟨t.S, t.R.filter fun r => !decide (r.p = p)⟩
theorem ps_len (R : List Row) : (ps R).length = R.length := List.length_map _
theorem ps_get {R : List Row} {k : Nat} : (ps R).getD k 0 = (R.getD k rowZ).p := by
  unfold ps
  rw [List.getD_eq_getElem?_getD, List.getElem?_map, List.getD_eq_getElem?_getD]
  cases R[k]? <;> rfl
theorem any_getD {α : Type} {q : α → Bool} {d : α} {l : List α} : l.any q = true ↔ ∃ k, k < l.length ∧ q (l.getD k d) = true := by
  rw [List.any_eq_true]
  constructor
  · rintro ⟨x, hx, h⟩
    obtain ⟨j, hj, rfl⟩ := (mem_getD (d := d)).1 hx
    exact ⟨j, hj, h⟩
  · rintro ⟨k, hk, h⟩
    exact ⟨_, getD_mem hk, h⟩
theorem any_false {α : Type} {q : α → Bool} {d : α} {l : List α} : l.any q = false ↔ ∀ k, k < l.length → q (l.getD k d) = false := by
  constructor
  · intro h k hk
    cases hq : q (l.getD k d) with
    | false => rfl
    | true => rw [any_getD.2 ⟨k, hk, hq⟩] at h; cases h
  · intro h
    cases ha : l.any q with
    | false => rfl
    | true =>
      obtain ⟨k, hk, hq⟩ := (any_getD (d := d)).1 ha
      rw [h k hk] at hq; cases hq
theorem badV_true {S V : List Int} : badV S V = true ↔ ∃ k, k < V.length ∧ (V.getD k 0 < 0 ∨ S.getD k 0 ≤ V.getD k 0) := by
  unfold badV
  rw [List.any_eq_true]
  constructor
  · rintro ⟨k, hk, h⟩; exact ⟨k, List.mem_range.1 hk, of_decide_eq_true h⟩
  · rintro ⟨k, hk, h⟩; exact ⟨k, List.mem_range.2 hk, decide_eq_true h⟩
theorem badV_false {S V : List Int} : badV S V = false ↔ ∀ k, k < V.length → 0 ≤ V.getD k 0 ∧ V.getD k 0 < S.getD k 0 := by
  rw [← Bool.not_eq_true, badV_true]
  constructor
  · intro h k hk
    rcases Classical.em (V.getD k 0 < 0 ∨ S.getD k 0 ≤ V.getD k 0) with h2 | h2
    · exact absurd ⟨k, hk, h2⟩ h
    · omega
  · rintro h ⟨k, hk, h2⟩
    have := h k hk
    omega
theorem badR_head {S : List Int} {r : Row} (h : r.p < 0 ∨ 65535 < r.p ∨ r.V.length ≠ S.length) : badR S r = true := by
  unfold badR; rw [decide_eq_true h, Bool.true_or]
theorem badR_tail {S : List Int} {r : Row} (h : ¬ (r.p < 0 ∨ 65535 < r.p ∨ r.V.length ≠ S.length)) : badR S r = badV S r.V := by
  unfold badR; rw [decide_eq_false h, Bool.false_or]
theorem badR_false {S : List Int} {r : Row} : badR S r = false ↔ (0 ≤ r.p ∧ r.p ≤ 65535 ∧ r.V.length = S.length) ∧ ∀ k, k < r.V.length → 0 ≤ r.V.getD k 0 ∧ r.V.getD k 0 < S.getD k 0 := by
  unfold badR
  rw [Bool.or_eq_false_iff, decide_eq_false_iff_not, badV_false]
  constructor
  · rintro ⟨h, h2⟩; exact ⟨by omega, h2⟩
  · rintro ⟨h, h2⟩; exact ⟨by omega, h2⟩
theorem okE_lim {t : Tab} (h : 8 < t.S.length ∨ 64 < t.R.length) : okE t = 4 := by unfold okE; rw [if_pos h]
theorem okE_arg {t : Tab} (h : ¬ (8 < t.S.length ∨ 64 < t.R.length)) (h1 : badS t.S = true ∨ t.R.any (badR t.S) = true) : okE t = 1 := by unfold okE; rw [if_neg h, if_pos h1]
theorem okE_two {t : Tab} (h : ¬ (8 < t.S.length ∨ 64 < t.R.length)) (h1 : badS t.S = false) (h2 : ∀ k, k < t.R.length → badR t.S (t.R.getD k rowZ) = false) : okE t = if (ps t.R).Nodup then 0 else 7 := by
  unfold okE
  rw [if_neg h, if_neg]
  rw [h1, (any_false (d := rowZ)).2 h2]
  decide
theorem okE_zero {t : Tab} : okE t = 0 ↔ t.S.length ≤ 8 ∧ t.R.length ≤ 64 ∧ badS t.S = false ∧ (∀ k, k < t.R.length → badR t.S (t.R.getD k rowZ) = false) ∧ (ps t.R).Nodup := by
  constructor
  · intro h
    by_cases h1 : 8 < t.S.length ∨ 64 < t.R.length
    · rw [okE_lim h1] at h; cases h
    by_cases h2 : badS t.S = true ∨ t.R.any (badR t.S) = true
    · rw [okE_arg h1 h2] at h; cases h
    have h3 : badS t.S = false := by simpa using fun e => h2 (.inl e)
    have h4 : t.R.any (badR t.S) = false := by
      cases e : t.R.any (badR t.S) with
      | false => rfl
      | true => exact absurd (.inr e) h2
    have h5 := (any_false (d := rowZ)).1 h4
    rw [okE_two h1 h3 h5] at h
    refine ⟨by omega, by omega, h3, h5, ?_⟩
    by_cases hn : (ps t.R).Nodup
    · exact hn
    · rw [if_neg hn] at h; cases h
  · rintro ⟨h1, h2, h3, h4, h5⟩
    rw [okE_two (by omega) h3 h4, if_pos h5]
/-- What was seen of a list before place k. -/
def sTo (l : List Int) : Nat → List Int
  | 0 => []
  | k + 1 => if l.getD k 0 ∈ sTo l k then sTo l k else sTo l k ++ [l.getD k 0]
theorem sTo_mem {l : List Int} {x : Int} : ∀ {k : Nat}, k ≤ l.length → (x ∈ sTo l k ↔ ∃ j, j < k ∧ l.getD j 0 = x)
  | 0, _ => by rw [sTo]; simp
  | k + 1, h => by
    rw [sTo]
    have ih := sTo_mem (l := l) (x := x) (k := k) (by omega)
    split
    · rename_i hm
      rw [ih]
      constructor
      · rintro ⟨j, hj, e⟩; exact ⟨j, by omega, e⟩
      · rintro ⟨j, hj, e⟩
        rcases Nat.lt_or_ge j k with h1 | h1
        · exact ⟨j, h1, e⟩
        · obtain rfl : j = k := by omega
          rw [e] at hm
          exact ih.1 hm
    · rw [List.mem_append, ih, List.mem_singleton]
      constructor
      · rintro (⟨j, hj, e⟩ | e)
        · exact ⟨j, by omega, e⟩
        · exact ⟨k, by omega, e.symm⟩
      · rintro ⟨j, hj, e⟩
        rcases Nat.lt_or_ge j k with h1 | h1
        · exact .inl ⟨j, h1, e⟩
        · obtain rfl : j = k := by omega
          exact .inr e.symm
/-- No two of the first k are the same. -/
def dis (l : List Int) (k : Nat) : Prop := ∀ i j, i < j → j < k → l.getD i 0 ≠ l.getD j 0
theorem sTo_len {l : List Int} : ∀ {k : Nat}, k ≤ l.length → (sTo l k).length ≤ k ∧ ((sTo l k).length = k ↔ dis l k)
  | 0, _ => ⟨Nat.le_refl _, ⟨fun _ i j h1 h2 => by omega, fun _ => rfl⟩⟩
  | k + 1, h => by
    obtain ⟨h1, h2⟩ := sTo_len (l := l) (k := k) (by omega)
    rw [sTo]
    split
    · rename_i hm
      refine ⟨by omega, ⟨fun e => by omega, fun hd => ?_⟩⟩
      obtain ⟨j, hj, e⟩ := (sTo_mem (by omega)).1 hm
      exact absurd e (hd j k hj (by omega))
    · rename_i hm
      rw [List.length_append, List.length_singleton]
      refine ⟨by omega, ⟨fun e i j hij hj => ?_, fun hd => ?_⟩⟩
      · rcases Nat.lt_or_ge j k with hjk | hjk
        · exact h2.1 (by omega) i j hij hjk
        · obtain rfl : j = k := by omega
          exact fun e => hm ((sTo_mem (by omega)).2 ⟨i, hij, e⟩)
      · have := h2.2 fun i j hij hj => hd i j hij (by omega)
        omega
theorem nodup_dis {l : List Int} : l.Nodup ↔ dis l l.length := by
  unfold dis
  rw [List.nodup_iff_pairwise_ne, List.pairwise_iff_getElem]
  constructor
  · intro h i j hij hj
    rw [List.getD_eq_getElem?_getD, List.getD_eq_getElem?_getD, List.getElem?_eq_getElem (by omega), List.getElem?_eq_getElem hj]
    exact h i j (by omega) hj hij
  · intro h i j hi hj hij
    have := h i j hij hj
    rw [List.getD_eq_getElem?_getD, List.getD_eq_getElem?_getD, List.getElem?_eq_getElem hi, List.getElem?_eq_getElem hj] at this
    exact this
/-- Tables made of numbers. -/
def madeS (l : List Int) : List Int := (List.range (1 + atI l 0 3).toNat).map fun i : Nat => 1 + atI l (1 + (i : Int)) 5
def valAt (k : Int) (S : List Int) (j : Nat) : Int := k / 5 ^ j / 40 % S.getD j 0
def rowM (l S : List Int) (i : Nat) : Row := ⟨atI l (5 + (i : Int)) 1048576 % 40, (List.range S.length).map (valAt (atI l (5 + (i : Int)) 1048576) S)⟩
def madeTo (l S : List Int) : Nat → List Row
  | 0 => []
  | i + 1 => if okE ⟨S, madeTo l S i ++ [rowM l S i]⟩ = 0 then madeTo l S i ++ [rowM l S i] else madeTo l S i
def made (l : List Int) : Tab := ⟨madeS l, madeTo l (madeS l) (atI l 4 11).toNat⟩
theorem madeS_len (l : List Int) : (madeS l).length = (1 + atI l 0 3).toNat := by unfold madeS; rw [List.length_map, List.length_range]
theorem madeS_bd (l : List Int) : 1 ≤ (madeS l).length ∧ (madeS l).length ≤ 3 := by
  have := at_lt l 0 3 (by decide)
  rw [madeS_len]; omega
theorem madeS_get {l : List Int} {i : Nat} (h : i < (madeS l).length) : (madeS l).getD i 0 = 1 + atI l (1 + (i : Int)) 5 := by
  rw [madeS_len] at h
  unfold madeS
  rw [List.getD_eq_getElem?_getD, List.getElem?_map, List.getElem?_range h]; rfl
theorem madeS_val {l : List Int} {i : Nat} (h : i < (madeS l).length) : 1 ≤ (madeS l).getD i 0 ∧ (madeS l).getD i 0 ≤ 5 := by
  have := at_lt l (1 + (i : Int)) 5 (by decide)
  rw [madeS_get h]; omega
theorem madeS_ok (l : List Int) : badS (madeS l) = false := by
  unfold badS
  refine (any_false (d := 0)).2 fun k hk => ?_
  have := madeS_val hk
  exact decide_eq_false (by omega)
theorem madeTo_ok {l S : List Int} (hS : S.length ≤ 8 ∧ badS S = false) : ∀ n, okE ⟨S, madeTo l S n⟩ = 0 ∧ (madeTo l S n).length ≤ n
  | 0 => ⟨okE_zero.2 ⟨hS.1, by show 0 ≤ 64; omega, hS.2, fun k hk => absurd hk (Nat.not_lt_zero k), List.nodup_nil⟩, Nat.le_refl _⟩
  | n + 1 => by
    obtain ⟨h1, h2⟩ := madeTo_ok (l := l) hS n
    rw [madeTo]
    split
    · rename_i h
      exact ⟨h, by rw [List.length_append, List.length_singleton]; omega⟩
    · exact ⟨h1, by omega⟩
theorem made_fine (l : List Int) : okE (made l) = 0 := (madeTo_ok ⟨by have := madeS_bd l; omega, madeS_ok l⟩ _).1
theorem made_len (l : List Int) : (made l).R.length ≤ 10 := by
  have h := (madeTo_ok (l := l) ⟨by have := madeS_bd l; omega, madeS_ok l⟩ (atI l 4 11).toNat).2
  have := at_lt l 4 11 (by decide)
  show (madeTo l (madeS l) _).length ≤ 10
  omega
end Go.Rl
