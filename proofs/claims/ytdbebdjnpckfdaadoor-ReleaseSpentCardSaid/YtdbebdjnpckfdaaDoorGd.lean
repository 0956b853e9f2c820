/- hash: the contracts of Begin, Add, Sum, wire.Bytes over abstract values. hash.Of. hash.Mac. dioramaref02: the small functions. dioramaref02: padded, words. dioramaref02.words. -/
import Derived.Test.YtdbebdjnpckfdaaDoorFd
import Derived.Test.YtdbebdjnpckfdaaDoorGc
import Derived.Test.YtdbebdjnpckfdaaDoorTy
set_option linter.unusedSimpArgs false
set_option linter.unusedVariables false
/- Ib -/
namespace Go.Proofs.YtdbebdjnpckfdaaDoor
open Go.V Go.RowKit Go.U Go.L
def u8A (n : Nat) (l : List UInt8) : AV := .arr n 1 (fun i => .int .u8 ((l.getD i 0).toNat : Nat))
def u32A (n : Nat) (l : List UInt32) : AV := .arr n 1 (fun i => .int .u32 ((l.getD i 0).toNat : Nat))
def bytesA (fr : Bool) (l : List UInt8) : AV := .rsl fr l.length 1 (fun i => .int .u8 ((l.getD i 0).toNat : Nat))
/-- A stream, by its message. -/
def strmA (m : List UInt8) : AV := .pair (u32A 8 (Sha.blocks m (m.length / 64)).words) (.pair (u8A 64 (Sha.blkOf m)) (.pair (.int .u64 (m.length : Nat)) .nul))
def gK : Asc := [(0, u32A 64 Sha.kTab)]
theorem rep_u8A {c : Ctx} {n : Nat} {l : List UInt8} (h : l.length = n) {vs : List Value} : Rep c (u8A n l) .C vs ↔ vs = u8s l :=
  rep_arr1 (u8s l) (by simp [u8s, h]) fun i hi ws => by
    have hi' : i < l.length := by simpa [u8s] using hi
    simp [u8s, Rep, hi']
theorem rep_u32A {c : Ctx} {n : Nat} {l : List UInt32} (h : l.length = n) {vs : List Value} : Rep c (u32A n l) .C vs ↔ vs = u32s l :=
  rep_arr1 (u32s l) (by simp [u32s, h]) fun i hi ws => by
    have hi' : i < l.length := by simpa [u32s] using hi
    simp [u32s, Rep, hi']
theorem rep_strmC {c : Ctx} {m : List UInt8} {vs : List Value} : Rep c (strmA m) .C vs ↔ vs = strm (Sha.blocks m (m.length / 64)) (Sha.blkOf m) m.length := by
  have h := Sha.blkOf_length m
  constructor
  · rintro ⟨x, y, rfl, h1, x2, y2, rfl, h2, x3, y3, rfl, h3, h4⟩
    rw [(rep_u32A (n := 8) (l := (Sha.blocks m (m.length / 64)).words) rfl).1 h1, (rep_u8A h).1 h2, show x3 = _ from h3, show y3 = _ from h4]
    rfl
  · rintro rfl
    exact ⟨_, _, rfl, (rep_u32A (n := 8) (l := (Sha.blocks m (m.length / 64)).words) rfl).2 rfl, _, _, rfl, (rep_u8A h).2 rfl, [_], [], rfl, rfl, rfl⟩
theorem rep_strmV {c : Ctx} {m : List UInt8} {v : Value} : Rep c (strmA m) .V [v] ↔ v = .agg (strm (Sha.blocks m (m.length / 64)) (Sha.blkOf m) m.length).toArray := by
  constructor
  · rintro ⟨x, y, e, h1, h2⟩
    have := (rep_strmC (c := c)).1 ⟨x, y, rfl, h1, h2⟩
    rw [← this]; simpa using e
  · rintro rfl
    obtain ⟨x, y, e, h1, h2⟩ := (rep_strmC (c := c)).2 rfl
    exact ⟨x, y, by rw [e], h1, h2⟩
theorem rep_arrV {c : Ctx} {n : Nat} {l : List UInt8} (h : l.length = n) {v : Value} : Rep c (u8A n l) .V [v] ↔ v = .agg (u8s l).toArray := by
  constructor
  · rintro ⟨xs, e, h1, h2⟩
    have := (rep_u8A (c := c) h).1 ⟨h1, h2⟩
    rw [← this]; simpa using e
  · rintro rfl
    obtain ⟨h1, h2⟩ := (rep_u8A (c := c) h).2 rfl
    exact ⟨_, rfl, h1, h2⟩
theorem ktab_of {c : Ctx} (hc : CtxOk c) (hg : ∀ x v, get? gK x = some v → Rep c (.rptr false v) .V [.pointer (some ⟨x, 0, none⟩)]) : KTab c.w 0 := by
  obtain ⟨b, o, xs, e, hS, _, hcl, hx⟩ := hg 0 _ (by rfl)
  simp only [List.cons.injEq, Value.pointer.injEq, Option.some.injEq, Addr.mk.injEq, and_true] at e
  obtain ⟨rfl, rfl⟩ := e
  have := (rep_u32A (n := 64) (l := Sha.kTab) (by rfl)).1 hx
  subst this
  exact ⟨hc.S _ hS, fun j u hu => by have := hcl j u hu; rwa [Nat.zero_add] at this⟩
theorem begin_ok : Ok Tryd.prog 95 [] [] .nul (fun r h' => r = strmA [] ∧ h' = []) :=
  Ok.of_calls fun c vs hc hB _ hvs => by
    have hvs : vs = [] := hvs
    subst hvs
    refine (begin_any c.w).mono fun e w' h => ?_
    obtain ⟨rfl, hb⟩ := h
    exact ⟨hb, _, _, rfl, ⟨rfl, rfl⟩, rep_strmV.2 rfl⟩
theorem isS_of (m : List UInt8) : IsS (strm (Sha.blocks m (m.length / 64)) (Sha.blkOf m) m.length) m := ⟨_, rfl, Sha.blkOf_length m, Sha.pre_blkOf m⟩
theorem isS_eq {cs : List Value} {m : List UInt8} (h : IsS cs m) : cs = strm (Sha.blocks m (m.length / 64)) (Sha.blkOf m) m.length := by
  obtain ⟨blk, rfl, _, h⟩ := h
  rw [h.blk]
theorem add_ok (m t : List UInt8) (hl : m.length + t.length ≤ 1099511627776) : Ok Tryd.prog 96 gK [] (.pair (strmA m) (.pair (.str t) .nul)) (fun r h' => r = strmA (m ++ t) ∧ h' = []) :=
  Ok.of_calls fun c vs hc hB hg hvs => by
    obtain ⟨x, y, rfl, h1, x2, y2, rfl, h2, h3⟩ := hvs
    have h1 := rep_strmV.1 h1
    have h2 : [x2] = [_] := h2
    have h3 : y2 = [] := h3
    subst h1 h3
    cases h2
    refine (add_any _ m t c.w (isS_of m) hl (ktab_of hc hg)).mono fun e w' h => ?_
    obtain ⟨cs, rfl, hS, hbl⟩ := h
    exact ⟨hbl, _, _, rfl, ⟨rfl, rfl⟩, rep_strmV.2 (by rw [isS_eq hS])⟩
theorem ssum_ok (m : List UInt8) (hl : m.length ≤ 1099511627000) : Ok Tryd.prog 98 gK [] (.pair (strmA m) .nul) (fun r h' => r = u8A 32 (Sha.sum m) ∧ h' = []) :=
  Ok.of_calls fun c vs hc hB hg hvs => by
    obtain ⟨x, y, rfl, h1, h3⟩ := hvs
    have h1 := rep_strmV.1 h1
    have h3 : y = [] := h3
    subst h1 h3
    refine (ssum_any _ m c.w (isS_of m) hl (ktab_of hc hg)).mono fun e w' h => ?_
    obtain ⟨rfl, hbl⟩ := h
    exact ⟨hbl, _, _, rfl, ⟨rfl, rfl⟩, (rep_arrV (n := 32) (l := Sha.sum m) rfl).2 rfl⟩
theorem own_bytes {c : Ctx} {w' : World} (hB : c.B = c.w.heap.size) {e : Nat} {v : Value} {l : List UInt8} (h : w'.ownsRow c.w.heap.size e 1 v l.length (u8s l)) : Rep (Later c w') (bytesA true l) .V [v] := by
  obtain ⟨a, cap, rfl, h1, h2⟩ := own_form h
  refine ⟨a, cap, rfl, h1, h2, ?_⟩
  rcases Nat.eq_zero_or_pos l.length with h0 | h0
  · exact .inl h0
  · obtain ⟨g, rfl, hg, hlt, hcl⟩ := own_some h h0
    exact .inr ⟨g, 0, u8s l, rfl, .inr ⟨hg, hlt⟩, fun _ => by show c.B ≤ g; rw [hB]; exact hg, fun j u hu => by rw [Nat.zero_add]; exact hcl j u hu, (rep_u8A (c := Later c w') rfl).2 rfl⟩
theorem wireBytes_ok (l : List UInt8) (hl : l.length ≤ 1099511627776) : Ok Tryd.prog 97 [] [] (.pair (.str l) .nul) (fun r h' => r = bytesA true (Wire.bytes l) ∧ h' = []) :=
  Ok.of_calls fun c vs hc hB hg hvs => by
    obtain ⟨x, y, rfl, h1, h3⟩ := hvs
    have h1 : [x] = [_] := h1
    have h3 : y = [] := h3
    subst h3
    cases h1
    refine (wireBytes_any l c.w hl).mono fun e w' h => ?_
    obtain ⟨v, rfl, ho, hbl⟩ := h
    exact ⟨hbl, _, _, rfl, ⟨rfl, rfl⟩, own_bytes hB ho⟩
end Go.Proofs.YtdbebdjnpckfdaaDoor
/- Ic -/
namespace Go.Proofs.YtdbebdjnpckfdaaDoor
open Go.V Go.RowKit Go.U Go.L
theorem gK_ok : GOk gK := by
  intro x v h
  unfold gK at h
  rw [get?_cons] at h
  split at h
  · cases h; exact ⟨fun i hi => trivial, fun i hi => trivial⟩
  · cases h
theorem noId_strm (m : List UInt8) : NoId (strmA m) := ⟨fun i hi => trivial, fun i hi => trivial, trivial, trivial⟩
theorem relA_strm {D : Nat → Prop} {σ : Nat → Nat} {m m' : List UInt8} (h : m' = m) : RelA D σ (strmA m) (strmA m') := by rw [h]; exact (noId_strm m).self
def strs (l : List (List UInt8)) : AV := .rsl false l.length 1 (fun i => .str (l.getD i []))
def tagB (t : Int) : UInt8 := UInt8.ofNat (t % 256).toNat
theorem tagB_wrap (t : Int) : IntKind.u8.wrap t = (((tagB t).toNat : Nat) : Int) := by
  have h : IntKind.u8.wrap t = t % 256 := by simp [IntKind.wrap, IntKind.signed, IntKind.bits]
  rw [h]
  unfold tagB
  rw [UInt8.toNat_ofNat']
  omega
def partsB (ps : List (List UInt8)) : List UInt8 := ps.flatMap Wire.bytes
def inputB (t : Int) (ps : List (List UInt8)) : List UInt8 := tagB t :: partsB ps
theorem partsB_take (ps : List (List UInt8)) (k : Nat) (h : k < ps.length) : partsB (ps.take (k + 1)) = partsB (ps.take k) ++ Wire.bytes (ps.getD k []) := by
  unfold partsB
  rw [List.take_succ_eq_append_getElem h, List.flatMap_append]
  simp [h]
theorem partsB_take_le (ps : List (List UInt8)) (k : Nat) : (partsB (ps.take k)).length ≤ (partsB ps).length := by
  have : partsB ps = partsB (ps.take k) ++ partsB (ps.drop k) := by
    unfold partsB; rw [← List.flatMap_append, List.take_append_drop]
  rw [this]; simp
set_option maxRecDepth 10000 in
theorem of_ok (t : Int) (ps : List (List UInt8)) (ht : -9223372036854775808 ≤ t ∧ t ≤ 9223372036854775807) (hl : ps.length ≤ 1000000000) (hps : (partsB ps).length ≤ 1000000000000) : Ok Tryd.prog 93 gK [] (.pair (.int .i64 t) (.pair (strs ps) .nul)) (fun r h' => r = u8A 16 (Sha.sum (inputB t ps)) ∧ h' = []) := by
  refine Ok.of_vc tt_ok Tryd.func93 rfl rfl (by show 2 ≤ _; decide) 0 (fun i av h => by cases h) fun c0 => ?_
  refine S_ ?_
  refine VC.draw (mkP [(0, 0), (1, 0), (2, 2), (3, 6), (4, 14), (5, 31), (6, 0)]) [7] (by rfl) (by kernel_rfl) (by rfl) (by rfl) ?_
  refine DSeq.callp false begin_ok Tryd.func95 gK_ok subG.nil (by rfl) (fastE (by rfl)) (fastH (by rfl)) (by rfl) (by rfl) rfl rfl rfl rfl rfl (by rfl) (by rfl) ?_ ?_ (noId_strm _) (fun e => by cases e) ?_
  · repeat' (first | exact View.rel ⟨rfl, rfl⟩ | (refine View.sln (by rfl) (by rfl) (by (first | exact trivial | exact u8_in _ rfl | exact u32_in _ rfl | ((with_reducible refine AllP.guard ?_); simp only [AllP, inI, fitV, maxK, inK, inbL, inb, List.append, List.cons_append, List.nil_append, true_and, and_true]; first | done | omega))) ?_ ⟨rfl, rfl⟩ ?_ ?_) | exact View.nil | exact View.emp | refine View.pair ?_ ?_ | refine View.fn ?_ ?_ | refine View.ptr (by rfl) (by rfl) (by (first | exact trivial | exact u8_in _ rfl | exact u32_in _ rfl | ((with_reducible refine AllP.guard ?_); simp only [AllP, inI, fitV, maxK, inK, inbL, inb, List.append, List.cons_append, List.nil_append, true_and, and_true]; first | done | omega))) (by rfl) ⟨rfl, rfl⟩ ?_ | exact View.rel (NoId.self (by first | ((repeat' (first | exact trivial | exact rfl | refine NoFr.bif ?_ ?_ | refine NoId.bif ?_ ?_ | refine AllFr.bif ?_ ?_ | (intro i hi) | (refine ⟨?_, ?_⟩) | (intro e; cases e; done))); done) | fail)) | (exact NoId.self (by first | ((repeat' (first | exact trivial | exact rfl | refine NoFr.bif ?_ ?_ | refine NoId.bif ?_ ?_ | refine AllFr.bif ?_ ?_ | (intro i hi) | (refine ⟨?_, ?_⟩) | (intro e; cases e; done))); done) | fail)) | exact ⟨rfl, rfl⟩ | (refine View.rel ?_; repeat' (first | exact EnvLe.nil | exact HeapLe.nil | with_reducible apply EnvLe.cons | with_reducible apply HeapLe.cons | (with_reducible refine RelA.int ?_; first | (refine Keep.mk ?_; first | with_reducible rfl | omega | decide) | skip) | exact rfl | exact ⟨rfl, rfl⟩ | (with_reducible refine RelA.rsl ?_; intro i hi) | (with_reducible refine RelA.arr ?_; intro i hi) | with_reducible refine RelA.pair ?_ ?_ | with_reducible refine RelA.rptr ?_ | (with_reducible refine RelA.rslw ?_; intro i hi) | (refine RelA.rsl ?_; intro i hi) | (refine RelA.rslw ?_; intro i hi) | (refine RelA.arr ?_; intro i hi) | refine RelA.pair ?_ ?_ | refine RelA.tup ?_ | ((first | refine RelA.rslL (by first | rfl | ((try simp only [List.length_take, List.length_drop, List.length_append, List.length_cons, List.length_nil, List.length_map, List.length_range]); omega)) ?_ | refine RelA.rslT (by first | rfl | ((try simp only [List.length_take, List.length_drop, List.length_append, List.length_cons, List.length_nil, List.length_map, List.length_range]); omega)) ?_ | refine RelA.arrL (by first | rfl | ((try simp only [List.length_take, List.length_drop, List.length_append, List.length_cons, List.length_nil, List.length_map, List.length_range]); omega)) ?_); intro i hi; (try simp only [List.length_take, List.length_drop] at hi); (try simp (disch := omega) only [getD_take, getD_drop, Nat.zero_add, Int.toNat_natCast])) | exact RelA.bif_int | refine RelA.fn ?_ ?_ | exact NoId.self (by first | ((repeat' (first | exact trivial | exact rfl | refine NoFr.bif ?_ ?_ | refine NoId.bif ?_ ?_ | refine AllFr.bif ?_ ?_ | (intro i hi) | (refine ⟨?_, ?_⟩) | (intro e; cases e; done))); done) | fail))) <;> (try with_reducible refine Keep.mk ?_) | exact rfl | omega | (intro i hi; (try rw [Nat.zero_add]); first | exact NoId.self (by first | ((repeat' (first | exact trivial | exact rfl | refine NoFr.bif ?_ ?_ | refine NoId.bif ?_ ?_ | refine AllFr.bif ?_ ?_ | (intro i hi) | (refine ⟨?_, ?_⟩) | (intro e; cases e; done))); done) | fail) | exact rfl | (obtain rfl := cs1_ hi; exact rfl) | (rcases cs2_ hi with rfl | rfl <;> exact rfl) | (rcases cs3_ hi with rfl | rfl | rfl <;> exact rfl) | (rcases cs4_ hi with rfl | rfl | rfl | rfl <;> exact rfl)))
  · repeat' (first | exact trivial | exact rfl | refine NoFr.bif ?_ ?_ | refine NoId.bif ?_ ?_ | refine AllFr.bif ?_ ?_ | (intro i hi) | (refine ⟨?_, ?_⟩) | (intro e; cases e; done))
  refine D_ ?_
  refine DSeq.str [tagB t] tt_ok (by rfl) (fastE (by rfl)) (fastH (by rfl)) (by rfl) (by rfl) (by rfl) (by rfl) (by rfl) (by (first | exact trivial | exact u8_in _ rfl | exact u32_in _ rfl | ((with_reducible refine AllP.guard ?_); simp only [AllP, inI, fitV, maxK, inK, inbL, inb, List.append, List.cons_append, List.nil_append, true_and, and_true]; first | done | omega))) (by rfl) (.inl rfl) (by rfl) (by rfl) ?_ ?_ ?_
  · rfl
  · intro i hi
    have hi0 : i = 0 := by omega
    subst hi0
    exact congrArg (AV.int .u8) (tagB_wrap t)
  refine DSeq.callp false (add_ok [] [tagB t] (by simp)) Tryd.func96 gK_ok subG.refl (by rfl) (fastE (by rfl)) (fastH (by rfl)) (by rfl) (by rfl) rfl rfl rfl rfl rfl (by rfl) (by rfl) ?_ ?_ (noId_strm _) (fun e => by cases e) ?_
  · repeat' (first | exact View.rel ⟨rfl, rfl⟩ | (refine View.sln (by rfl) (by rfl) (by (first | exact trivial | exact u8_in _ rfl | exact u32_in _ rfl | ((with_reducible refine AllP.guard ?_); simp only [AllP, inI, fitV, maxK, inK, inbL, inb, List.append, List.cons_append, List.nil_append, true_and, and_true]; first | done | omega))) ?_ ⟨rfl, rfl⟩ ?_ ?_) | exact View.nil | exact View.emp | refine View.pair ?_ ?_ | refine View.fn ?_ ?_ | refine View.ptr (by rfl) (by rfl) (by (first | exact trivial | exact u8_in _ rfl | exact u32_in _ rfl | ((with_reducible refine AllP.guard ?_); simp only [AllP, inI, fitV, maxK, inK, inbL, inb, List.append, List.cons_append, List.nil_append, true_and, and_true]; first | done | omega))) (by rfl) ⟨rfl, rfl⟩ ?_ | exact View.rel (NoId.self (by first | ((repeat' (first | exact trivial | exact rfl | refine NoFr.bif ?_ ?_ | refine NoId.bif ?_ ?_ | refine AllFr.bif ?_ ?_ | (intro i hi) | (refine ⟨?_, ?_⟩) | (intro e; cases e; done))); done) | fail)) | (exact NoId.self (by first | ((repeat' (first | exact trivial | exact rfl | refine NoFr.bif ?_ ?_ | refine NoId.bif ?_ ?_ | refine AllFr.bif ?_ ?_ | (intro i hi) | (refine ⟨?_, ?_⟩) | (intro e; cases e; done))); done) | fail)) | exact ⟨rfl, rfl⟩ | (refine View.rel ?_; repeat' (first | exact EnvLe.nil | exact HeapLe.nil | with_reducible apply EnvLe.cons | with_reducible apply HeapLe.cons | (with_reducible refine RelA.int ?_; first | (refine Keep.mk ?_; first | with_reducible rfl | omega | decide) | skip) | exact rfl | exact ⟨rfl, rfl⟩ | (with_reducible refine RelA.rsl ?_; intro i hi) | (with_reducible refine RelA.arr ?_; intro i hi) | with_reducible refine RelA.pair ?_ ?_ | with_reducible refine RelA.rptr ?_ | (with_reducible refine RelA.rslw ?_; intro i hi) | (refine RelA.rsl ?_; intro i hi) | (refine RelA.rslw ?_; intro i hi) | (refine RelA.arr ?_; intro i hi) | refine RelA.pair ?_ ?_ | refine RelA.tup ?_ | ((first | refine RelA.rslL (by first | rfl | ((try simp only [List.length_take, List.length_drop, List.length_append, List.length_cons, List.length_nil, List.length_map, List.length_range]); omega)) ?_ | refine RelA.rslT (by first | rfl | ((try simp only [List.length_take, List.length_drop, List.length_append, List.length_cons, List.length_nil, List.length_map, List.length_range]); omega)) ?_ | refine RelA.arrL (by first | rfl | ((try simp only [List.length_take, List.length_drop, List.length_append, List.length_cons, List.length_nil, List.length_map, List.length_range]); omega)) ?_); intro i hi; (try simp only [List.length_take, List.length_drop] at hi); (try simp (disch := omega) only [getD_take, getD_drop, Nat.zero_add, Int.toNat_natCast])) | exact RelA.bif_int | refine RelA.fn ?_ ?_ | exact NoId.self (by first | ((repeat' (first | exact trivial | exact rfl | refine NoFr.bif ?_ ?_ | refine NoId.bif ?_ ?_ | refine AllFr.bif ?_ ?_ | (intro i hi) | (refine ⟨?_, ?_⟩) | (intro e; cases e; done))); done) | fail))) <;> (try with_reducible refine Keep.mk ?_) | exact rfl | omega | (intro i hi; (try rw [Nat.zero_add]); first | exact NoId.self (by first | ((repeat' (first | exact trivial | exact rfl | refine NoFr.bif ?_ ?_ | refine NoId.bif ?_ ?_ | refine AllFr.bif ?_ ?_ | (intro i hi) | (refine ⟨?_, ?_⟩) | (intro e; cases e; done))); done) | fail) | exact rfl | (obtain rfl := cs1_ hi; exact rfl) | (rcases cs2_ hi with rfl | rfl <;> exact rfl) | (rcases cs3_ hi with rfl | rfl | rfl <;> exact rfl) | (rcases cs4_ hi with rfl | rfl | rfl | rfl <;> exact rfl)))
  · repeat' (first | exact trivial | exact rfl | refine NoFr.bif ?_ ?_ | refine NoId.bif ?_ ?_ | refine AllFr.bif ?_ ?_ | (intro i hi) | (refine ⟨?_, ?_⟩) | (intro e; cases e; done))
  refine D_ ?_
  refine S_ ?_
  refine VC.loop (fun k => ⟨[(17, .int .i64 (k : Nat)), (16, .int .i64 (ps.length : Nat)), (15, strs ps), (5, .ptr 2 []), (4, .ptr 0 [])], [(2, strmA (inputB t (ps.take k))), (0, u8A 16 [])], gK, 3⟩) (fun k => k ≤ ps.length) (fun k => ps.length - k) 0 (by omega) (by refine Sim.less [] (by rfl) ?_ ?_ <;> (repeat' (first | with_reducible refine relA_strm ?_ | first | exact EnvLe.nil | exact HeapLe.nil | with_reducible apply EnvLe.cons | with_reducible apply HeapLe.cons | (with_reducible refine RelA.int ?_; first | (refine Keep.mk ?_; first | with_reducible rfl | omega | decide) | skip) | exact rfl | exact ⟨rfl, rfl⟩ | (with_reducible refine RelA.rsl ?_; intro i hi) | (with_reducible refine RelA.arr ?_; intro i hi) | with_reducible refine RelA.pair ?_ ?_ | with_reducible refine RelA.rptr ?_ | (with_reducible refine RelA.rslw ?_; intro i hi) | (refine RelA.rsl ?_; intro i hi) | (refine RelA.rslw ?_; intro i hi) | (refine RelA.arr ?_; intro i hi) | refine RelA.pair ?_ ?_ | refine RelA.tup ?_ | ((first | refine RelA.rslL (by first | rfl | ((try simp only [List.length_take, List.length_drop, List.length_append, List.length_cons, List.length_nil, List.length_map, List.length_range]); omega)) ?_ | refine RelA.rslT (by first | rfl | ((try simp only [List.length_take, List.length_drop, List.length_append, List.length_cons, List.length_nil, List.length_map, List.length_range]); omega)) ?_ | refine RelA.arrL (by first | rfl | ((try simp only [List.length_take, List.length_drop, List.length_append, List.length_cons, List.length_nil, List.length_map, List.length_range]); omega)) ?_); intro i hi; (try simp only [List.length_take, List.length_drop] at hi); (try simp (disch := omega) only [getD_take, getD_drop, Nat.zero_add, Int.toNat_natCast])) | exact RelA.bif_int | refine RelA.fn ?_ ?_ | exact NoId.self (by first | ((repeat' (first | exact trivial | exact rfl | refine NoFr.bif ?_ ?_ | refine NoId.bif ?_ ?_ | refine AllFr.bif ?_ ?_ | (intro i hi) | (refine ⟨?_, ?_⟩) | (intro e; cases e; done))); done) | fail))) <;> (try with_reducible refine Keep.mk ?_)) fun k hk => ?_
  refine S_ ?_
  refine VC.cond (by rfl) (fun hb => ?_) (fun hb => ?_) <;> (try simp only [decide_eq_true_eq, decide_eq_false_iff_not, Bool.not_eq_true', Bool.not_eq_false'] at hb) <;> (try (exfalso; omega))
  · refine S_ ?_
    have hkl : k < ps.length := by omega
    have hw := partsB_take_le ps k
    have hw2 := partsB_take ps k hkl
    have hw3 := partsB_take_le ps (k + 1)
    rw [hw2, List.length_append] at hw3
    have hw4 : (ps.getD k []).length ≤ (Wire.bytes (ps.getD k [])).length := by simp [Wire.bytes]
    refine VC.draw (mkP [(0, 0), (1, 0), (2, 2), (3, 6), (4, 15)]) [5] (by rfl) (by kernel_rfl) (by rfl) (by rfl) ?_
    refine D_ ?_
    refine DSeq.callp true (wireBytes_ok (ps.getD k []) (by omega)) Tryd.func97 gK_ok subG.nil (by rfl) (fastE (by rfl)) (fastH (by rfl)) (by rfl) (by rfl) rfl rfl rfl rfl rfl (by rfl) (by rfl) ?_ ?_ (fun i hi => trivial) (fun _ => ⟨rfl, fun i hi => trivial⟩) ?_
    · repeat' (first | exact View.rel ⟨rfl, rfl⟩ | (refine View.sln (by rfl) (by rfl) (by (first | exact trivial | exact u8_in _ rfl | exact u32_in _ rfl | ((with_reducible refine AllP.guard ?_); simp only [AllP, inI, fitV, maxK, inK, inbL, inb, List.append, List.cons_append, List.nil_append, true_and, and_true]; first | done | omega))) ?_ ⟨rfl, rfl⟩ ?_ ?_) | exact View.nil | exact View.emp | refine View.pair ?_ ?_ | refine View.fn ?_ ?_ | refine View.ptr (by rfl) (by rfl) (by (first | exact trivial | exact u8_in _ rfl | exact u32_in _ rfl | ((with_reducible refine AllP.guard ?_); simp only [AllP, inI, fitV, maxK, inK, inbL, inb, List.append, List.cons_append, List.nil_append, true_and, and_true]; first | done | omega))) (by rfl) ⟨rfl, rfl⟩ ?_ | exact View.rel (NoId.self (by first | ((repeat' (first | exact trivial | exact rfl | refine NoFr.bif ?_ ?_ | refine NoId.bif ?_ ?_ | refine AllFr.bif ?_ ?_ | (intro i hi) | (refine ⟨?_, ?_⟩) | (intro e; cases e; done))); done) | fail)) | (exact NoId.self (by first | ((repeat' (first | exact trivial | exact rfl | refine NoFr.bif ?_ ?_ | refine NoId.bif ?_ ?_ | refine AllFr.bif ?_ ?_ | (intro i hi) | (refine ⟨?_, ?_⟩) | (intro e; cases e; done))); done) | fail)) | exact ⟨rfl, rfl⟩ | (refine View.rel ?_; repeat' (first | exact EnvLe.nil | exact HeapLe.nil | with_reducible apply EnvLe.cons | with_reducible apply HeapLe.cons | (with_reducible refine RelA.int ?_; first | (refine Keep.mk ?_; first | with_reducible rfl | omega | decide) | skip) | exact rfl | exact ⟨rfl, rfl⟩ | (with_reducible refine RelA.rsl ?_; intro i hi) | (with_reducible refine RelA.arr ?_; intro i hi) | with_reducible refine RelA.pair ?_ ?_ | with_reducible refine RelA.rptr ?_ | (with_reducible refine RelA.rslw ?_; intro i hi) | (refine RelA.rsl ?_; intro i hi) | (refine RelA.rslw ?_; intro i hi) | (refine RelA.arr ?_; intro i hi) | refine RelA.pair ?_ ?_ | refine RelA.tup ?_ | ((first | refine RelA.rslL (by first | rfl | ((try simp only [List.length_take, List.length_drop, List.length_append, List.length_cons, List.length_nil, List.length_map, List.length_range]); omega)) ?_ | refine RelA.rslT (by first | rfl | ((try simp only [List.length_take, List.length_drop, List.length_append, List.length_cons, List.length_nil, List.length_map, List.length_range]); omega)) ?_ | refine RelA.arrL (by first | rfl | ((try simp only [List.length_take, List.length_drop, List.length_append, List.length_cons, List.length_nil, List.length_map, List.length_range]); omega)) ?_); intro i hi; (try simp only [List.length_take, List.length_drop] at hi); (try simp (disch := omega) only [getD_take, getD_drop, Nat.zero_add, Int.toNat_natCast])) | exact RelA.bif_int | refine RelA.fn ?_ ?_ | exact NoId.self (by first | ((repeat' (first | exact trivial | exact rfl | refine NoFr.bif ?_ ?_ | refine NoId.bif ?_ ?_ | refine AllFr.bif ?_ ?_ | (intro i hi) | (refine ⟨?_, ?_⟩) | (intro e; cases e; done))); done) | fail))) <;> (try with_reducible refine Keep.mk ?_) | exact rfl | omega | (intro i hi; (try rw [Nat.zero_add]); first | exact NoId.self (by first | ((repeat' (first | exact trivial | exact rfl | refine NoFr.bif ?_ ?_ | refine NoId.bif ?_ ?_ | refine AllFr.bif ?_ ?_ | (intro i hi) | (refine ⟨?_, ?_⟩) | (intro e; cases e; done))); done) | fail) | exact rfl | (obtain rfl := cs1_ hi; exact rfl) | (rcases cs2_ hi with rfl | rfl <;> exact rfl) | (rcases cs3_ hi with rfl | rfl | rfl <;> exact rfl) | (rcases cs4_ hi with rfl | rfl | rfl | rfl <;> exact rfl)))
    · repeat' (first | exact trivial | exact rfl | refine NoFr.bif ?_ ?_ | refine NoId.bif ?_ ?_ | refine AllFr.bif ?_ ?_ | (intro i hi) | (refine ⟨?_, ?_⟩) | (intro e; cases e; done))
    refine DSeq.str (Wire.bytes (ps.getD k [])) tt_ok (by rfl) (fastE (by rfl)) (fastH (by rfl)) (by rfl) (by rfl) (by rfl) (by rfl) (by rfl) (by (first | exact trivial | exact u8_in _ rfl | exact u32_in _ rfl | ((with_reducible refine AllP.guard ?_); simp only [AllP, inI, fitV, maxK, inK, inbL, inb, List.append, List.cons_append, List.nil_append, true_and, and_true]; first | done | omega))) (by rfl) (.inl rfl) (by rfl) (by rfl) ?_ ?_ ?_
    · rfl
    · exact fun i hi => rfl
    refine DSeq.callp false (add_ok (inputB t (ps.take k)) (Wire.bytes (ps.getD k [])) (by have : (inputB t (ps.take k)).length = (partsB (ps.take k)).length + 1 := rfl; omega)) Tryd.func96 gK_ok subG.refl (by rfl) (fastE (by rfl)) (fastH (by rfl)) (by rfl) (by rfl) rfl rfl rfl rfl rfl (by rfl) (by rfl) ?_ ?_ (noId_strm _) (fun e => by cases e) ?_
    · repeat' (first | exact View.rel ⟨rfl, rfl⟩ | (refine View.sln (by rfl) (by rfl) (by (first | exact trivial | exact u8_in _ rfl | exact u32_in _ rfl | ((with_reducible refine AllP.guard ?_); simp only [AllP, inI, fitV, maxK, inK, inbL, inb, List.append, List.cons_append, List.nil_append, true_and, and_true]; first | done | omega))) ?_ ⟨rfl, rfl⟩ ?_ ?_) | exact View.nil | exact View.emp | refine View.pair ?_ ?_ | refine View.fn ?_ ?_ | refine View.ptr (by rfl) (by rfl) (by (first | exact trivial | exact u8_in _ rfl | exact u32_in _ rfl | ((with_reducible refine AllP.guard ?_); simp only [AllP, inI, fitV, maxK, inK, inbL, inb, List.append, List.cons_append, List.nil_append, true_and, and_true]; first | done | omega))) (by rfl) ⟨rfl, rfl⟩ ?_ | exact View.rel (NoId.self (by first | ((repeat' (first | exact trivial | exact rfl | refine NoFr.bif ?_ ?_ | refine NoId.bif ?_ ?_ | refine AllFr.bif ?_ ?_ | (intro i hi) | (refine ⟨?_, ?_⟩) | (intro e; cases e; done))); done) | fail)) | (exact NoId.self (by first | ((repeat' (first | exact trivial | exact rfl | refine NoFr.bif ?_ ?_ | refine NoId.bif ?_ ?_ | refine AllFr.bif ?_ ?_ | (intro i hi) | (refine ⟨?_, ?_⟩) | (intro e; cases e; done))); done) | fail)) | exact ⟨rfl, rfl⟩ | (refine View.rel ?_; repeat' (first | exact EnvLe.nil | exact HeapLe.nil | with_reducible apply EnvLe.cons | with_reducible apply HeapLe.cons | (with_reducible refine RelA.int ?_; first | (refine Keep.mk ?_; first | with_reducible rfl | omega | decide) | skip) | exact rfl | exact ⟨rfl, rfl⟩ | (with_reducible refine RelA.rsl ?_; intro i hi) | (with_reducible refine RelA.arr ?_; intro i hi) | with_reducible refine RelA.pair ?_ ?_ | with_reducible refine RelA.rptr ?_ | (with_reducible refine RelA.rslw ?_; intro i hi) | (refine RelA.rsl ?_; intro i hi) | (refine RelA.rslw ?_; intro i hi) | (refine RelA.arr ?_; intro i hi) | refine RelA.pair ?_ ?_ | refine RelA.tup ?_ | ((first | refine RelA.rslL (by first | rfl | ((try simp only [List.length_take, List.length_drop, List.length_append, List.length_cons, List.length_nil, List.length_map, List.length_range]); omega)) ?_ | refine RelA.rslT (by first | rfl | ((try simp only [List.length_take, List.length_drop, List.length_append, List.length_cons, List.length_nil, List.length_map, List.length_range]); omega)) ?_ | refine RelA.arrL (by first | rfl | ((try simp only [List.length_take, List.length_drop, List.length_append, List.length_cons, List.length_nil, List.length_map, List.length_range]); omega)) ?_); intro i hi; (try simp only [List.length_take, List.length_drop] at hi); (try simp (disch := omega) only [getD_take, getD_drop, Nat.zero_add, Int.toNat_natCast])) | exact RelA.bif_int | refine RelA.fn ?_ ?_ | exact NoId.self (by first | ((repeat' (first | exact trivial | exact rfl | refine NoFr.bif ?_ ?_ | refine NoId.bif ?_ ?_ | refine AllFr.bif ?_ ?_ | (intro i hi) | (refine ⟨?_, ?_⟩) | (intro e; cases e; done))); done) | fail))) <;> (try with_reducible refine Keep.mk ?_) | exact rfl | omega | (intro i hi; (try rw [Nat.zero_add]); first | exact NoId.self (by first | ((repeat' (first | exact trivial | exact rfl | refine NoFr.bif ?_ ?_ | refine NoId.bif ?_ ?_ | refine AllFr.bif ?_ ?_ | (intro i hi) | (refine ⟨?_, ?_⟩) | (intro e; cases e; done))); done) | fail) | exact rfl | (obtain rfl := cs1_ hi; exact rfl) | (rcases cs2_ hi with rfl | rfl <;> exact rfl) | (rcases cs3_ hi with rfl | rfl | rfl <;> exact rfl) | (rcases cs4_ hi with rfl | rfl | rfl | rfl <;> exact rfl)))
    · repeat' (first | exact trivial | exact rfl | refine NoFr.bif ?_ ?_ | refine NoId.bif ?_ ?_ | refine AllFr.bif ?_ ?_ | (intro i hi) | (refine ⟨?_, ?_⟩) | (intro e; cases e; done))
    refine D_ ?_
    refine S_ ?_
    refine ⟨k + 1, by omega, by omega, ?_⟩
    refine Sim.less [] (by rfl) ?_ ?_ <;> (repeat' (first | with_reducible refine relA_strm ?_ | first | exact EnvLe.nil | exact HeapLe.nil | with_reducible apply EnvLe.cons | with_reducible apply HeapLe.cons | (with_reducible refine RelA.int ?_; first | (refine Keep.mk ?_; first | with_reducible rfl | omega | decide) | skip) | exact rfl | exact ⟨rfl, rfl⟩ | (with_reducible refine RelA.rsl ?_; intro i hi) | (with_reducible refine RelA.arr ?_; intro i hi) | with_reducible refine RelA.pair ?_ ?_ | with_reducible refine RelA.rptr ?_ | (with_reducible refine RelA.rslw ?_; intro i hi) | (refine RelA.rsl ?_; intro i hi) | (refine RelA.rslw ?_; intro i hi) | (refine RelA.arr ?_; intro i hi) | refine RelA.pair ?_ ?_ | refine RelA.tup ?_ | ((first | refine RelA.rslL (by first | rfl | ((try simp only [List.length_take, List.length_drop, List.length_append, List.length_cons, List.length_nil, List.length_map, List.length_range]); omega)) ?_ | refine RelA.rslT (by first | rfl | ((try simp only [List.length_take, List.length_drop, List.length_append, List.length_cons, List.length_nil, List.length_map, List.length_range]); omega)) ?_ | refine RelA.arrL (by first | rfl | ((try simp only [List.length_take, List.length_drop, List.length_append, List.length_cons, List.length_nil, List.length_map, List.length_range]); omega)) ?_); intro i hi; (try simp only [List.length_take, List.length_drop] at hi); (try simp (disch := omega) only [getD_take, getD_drop, Nat.zero_add, Int.toNat_natCast])) | exact RelA.bif_int | refine RelA.fn ?_ ?_ | exact NoId.self (by first | ((repeat' (first | exact trivial | exact rfl | refine NoFr.bif ?_ ?_ | refine NoId.bif ?_ ?_ | refine AllFr.bif ?_ ?_ | (intro i hi) | (refine ⟨?_, ?_⟩) | (intro e; cases e; done))); done) | fail))) <;> (try with_reducible refine Keep.mk ?_)
    unfold inputB
    rw [hw2]; rfl
  · refine S_ ?_
    have hkl : ps.take k = ps := List.take_of_length_le (by omega)
    rw [hkl]
    refine Seq.callp false (ssum_ok (inputB t ps) (by have : (inputB t ps).length = (partsB ps).length + 1 := rfl; omega)) Tryd.func98 gK_ok subG.refl (by rfl) (by rfl) rfl rfl rfl rfl rfl (by rfl) rfl ?_ ?_ (fun i hi => trivial) (fun e => by cases e) ?_
    · repeat' (first | exact View.rel ⟨rfl, rfl⟩ | (refine View.sln (by rfl) (by rfl) (by (first | exact trivial | exact u8_in _ rfl | exact u32_in _ rfl | ((with_reducible refine AllP.guard ?_); simp only [AllP, inI, fitV, maxK, inK, inbL, inb, List.append, List.cons_append, List.nil_append, true_and, and_true]; first | done | omega))) ?_ ⟨rfl, rfl⟩ ?_ ?_) | exact View.nil | exact View.emp | refine View.pair ?_ ?_ | refine View.fn ?_ ?_ | refine View.ptr (by rfl) (by rfl) (by (first | exact trivial | exact u8_in _ rfl | exact u32_in _ rfl | ((with_reducible refine AllP.guard ?_); simp only [AllP, inI, fitV, maxK, inK, inbL, inb, List.append, List.cons_append, List.nil_append, true_and, and_true]; first | done | omega))) (by rfl) ⟨rfl, rfl⟩ ?_ | exact View.rel (NoId.self (by first | ((repeat' (first | exact trivial | exact rfl | refine NoFr.bif ?_ ?_ | refine NoId.bif ?_ ?_ | refine AllFr.bif ?_ ?_ | (intro i hi) | (refine ⟨?_, ?_⟩) | (intro e; cases e; done))); done) | fail)) | (exact NoId.self (by first | ((repeat' (first | exact trivial | exact rfl | refine NoFr.bif ?_ ?_ | refine NoId.bif ?_ ?_ | refine AllFr.bif ?_ ?_ | (intro i hi) | (refine ⟨?_, ?_⟩) | (intro e; cases e; done))); done) | fail)) | exact ⟨rfl, rfl⟩ | (refine View.rel ?_; repeat' (first | exact EnvLe.nil | exact HeapLe.nil | with_reducible apply EnvLe.cons | with_reducible apply HeapLe.cons | (with_reducible refine RelA.int ?_; first | (refine Keep.mk ?_; first | with_reducible rfl | omega | decide) | skip) | exact rfl | exact ⟨rfl, rfl⟩ | (with_reducible refine RelA.rsl ?_; intro i hi) | (with_reducible refine RelA.arr ?_; intro i hi) | with_reducible refine RelA.pair ?_ ?_ | with_reducible refine RelA.rptr ?_ | (with_reducible refine RelA.rslw ?_; intro i hi) | (refine RelA.rsl ?_; intro i hi) | (refine RelA.rslw ?_; intro i hi) | (refine RelA.arr ?_; intro i hi) | refine RelA.pair ?_ ?_ | refine RelA.tup ?_ | ((first | refine RelA.rslL (by first | rfl | ((try simp only [List.length_take, List.length_drop, List.length_append, List.length_cons, List.length_nil, List.length_map, List.length_range]); omega)) ?_ | refine RelA.rslT (by first | rfl | ((try simp only [List.length_take, List.length_drop, List.length_append, List.length_cons, List.length_nil, List.length_map, List.length_range]); omega)) ?_ | refine RelA.arrL (by first | rfl | ((try simp only [List.length_take, List.length_drop, List.length_append, List.length_cons, List.length_nil, List.length_map, List.length_range]); omega)) ?_); intro i hi; (try simp only [List.length_take, List.length_drop] at hi); (try simp (disch := omega) only [getD_take, getD_drop, Nat.zero_add, Int.toNat_natCast])) | exact RelA.bif_int | refine RelA.fn ?_ ?_ | exact NoId.self (by first | ((repeat' (first | exact trivial | exact rfl | refine NoFr.bif ?_ ?_ | refine NoId.bif ?_ ?_ | refine AllFr.bif ?_ ?_ | (intro i hi) | (refine ⟨?_, ?_⟩) | (intro e; cases e; done))); done) | fail))) <;> (try with_reducible refine Keep.mk ?_) | exact rfl | omega | (intro i hi; (try rw [Nat.zero_add]); first | exact NoId.self (by first | ((repeat' (first | exact trivial | exact rfl | refine NoFr.bif ?_ ?_ | refine NoId.bif ?_ ?_ | refine AllFr.bif ?_ ?_ | (intro i hi) | (refine ⟨?_, ?_⟩) | (intro e; cases e; done))); done) | fail) | exact rfl | (obtain rfl := cs1_ hi; exact rfl) | (rcases cs2_ hi with rfl | rfl <;> exact rfl) | (rcases cs3_ hi with rfl | rfl | rfl <;> exact rfl) | (rcases cs4_ hi with rfl | rfl | rfl | rfl <;> exact rfl)))
    · repeat' (first | exact trivial | exact rfl | refine NoFr.bif ?_ ?_ | refine NoId.bif ?_ ?_ | refine AllFr.bif ?_ ?_ | (intro i hi) | (refine ⟨?_, ?_⟩) | (intro e; cases e; done))
    refine S_ ?_
    refine retQ_ok (by rfl) [] nil_sub ⟨?_, rfl⟩
    unfold u8A
    congr 1
    funext i
    rw [Nat.zero_add]
end Go.Proofs.YtdbebdjnpckfdaaDoor
/- Id -/
namespace Go.Proofs.YtdbebdjnpckfdaaDoor
open Go.V Go.RowKit Go.U Go.L
end Go.Proofs.YtdbebdjnpckfdaaDoor
/- Ie -/
namespace Go.Proofs.YtdbebdjnpckfdaaDoor
open Go.V Go.RowKit Go.U Go.L
end Go.Proofs.YtdbebdjnpckfdaaDoor
/- If -/
namespace Go.Proofs.YtdbebdjnpckfdaaDoor
open Go.V Go.RowKit Go.U Go.L
theorem joinF_app {n : Nat} {l l2 : List UInt8} (hl : l.length = n) {i : Nat} : joinF n (fun i => .int .u8 ((l.getD i 0).toNat : Nat)) (fun i => .int .u8 ((l2.getD i 0).toNat : Nat)) i = .int .u8 (((l ++ l2).getD i 0).toNat : Nat) := by
  subst hl
  by_cases h : i < l.length
  · rw [joinF_lt h]
    simp [List.getElem?_append_left h]
  · rw [joinF_ge (by omega)]
    simp [List.getElem?_append_right (show l.length ≤ i by omega)]
/-- The padding, zeros so far. -/
def pz (m : List UInt8) (k : Nat) : List UInt8 := m ++ 128 :: List.replicate k 0
def pb (m : List UInt8) (k : Nat) : List UInt8 := pz m (Sha.zeros m.length) ++ (Sha.be64 (8 * m.length)).take k
end Go.Proofs.YtdbebdjnpckfdaaDoor
/- Ig -/
namespace Go.Proofs.YtdbebdjnpckfdaaDoor
open Go.V Go.RowKit Go.U Go.L
end Go.Proofs.YtdbebdjnpckfdaaDoor
