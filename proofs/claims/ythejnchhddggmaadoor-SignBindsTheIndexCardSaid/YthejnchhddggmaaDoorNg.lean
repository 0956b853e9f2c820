
/- strings.Builder: what Write and String do to a builder of the call's own. -/
import Derived.WalkKit
import Derived.Lib.Builder
import Derived.Lib.UnsafeStr
import Derived.Lib.AppendStr
import Derived.Laws.Externs
import Derived.Laws.AppendOwn
import Derived.Test.YthejnchhddggmaaDoorNf
import Derived.Test.YthejnchhddggmaaDoorFs
set_option linter.unusedSimpArgs false
set_option linter.unusedVariables false
namespace Go.L
open Go.RowKit
theorem bsize_setRow {w : World} {g : Nat} {cur : Array Value} {e : TypeId} {fz : Nat × Nat} {cs : Array Value} (hg : w.heap[g]? = some (.cells cur e fz)) (h : cur.size ≤ cs.size) (k : Nat) : V.bsize w k ≤ V.bsize (w.setRow g cs) k := by
  by_cases hk : k = g
  · subst hk
    unfold V.bsize
    rw [setRow_heap w k cur cs e fz hg, hg]
    exact h
  · rw [V.bsize_congr (setRow_other w g k cs hk)]; exact Nat.le_refl _
/-- append onto a row of the call's own: in its block, or in a new one. -/
theorem run_append_bld {P : Program} {w : World} {B t tx ty e : Nat} {z : Value} {size bytes : Nat} (hI : Info P t e z size bytes) {v : Value} {n : Nat} {xs : List Value}
    (hown : w.ownsRow B e size v n xs) {x : Value} {m : Nat} {news : List Value} (hs : Src P size tx x m news w) (hbase : B ≤ w.heap.size)
    (h63 : n + m ≤ maxLen) (hbytes : (n + m) * bytes ≤ 140737488355328) :
    ∃ v' w', (Builtin.append_ #[t, tx] ty #[v, x]).run P w = .ok v' w' ∧ w'.ownsRow B e size v' (n + m) (xs ++ news) ∧ w.grownBy w' v.ownBlock ∧ (∀ g, v'.ownBlock = some g → v.ownBlock = some g ∨ w.heap.size ≤ g) ∧ ∀ k, V.bsize w k ≤ V.bsize w' k := by
  obtain ⟨ht, hi0, hzs, hsz⟩ := hI
  obtain ⟨i, hi, hz, hsize, hby⟩ := info_parts hi0
  subst hsize
  subst hby
  have hl := hs.newsLen
  have hsmall : n + m ≤ 9223372036854775807 := by simp only [maxLen] at h63; omega
  have hlen : (xs ++ news).length = (n + m) * i.size := by rw [List.length_append, hown.1, hl, Nat.add_mul]
  have grown : ∀ (old : Nat) (row : Option Nat),
      (w.drew.alloc (.cells ((xs ++ news).toArray ++ Builtin.zeroCells z.cells (grownCap w (n + m) old e - (n + m))) e)).ownsRow B e i.size
        (.slice (some ⟨w.heap.size, 0, none⟩) (n + m) (grownCap w (n + m) old e)) (n + m) (xs ++ news) ∧
      w.grownBy (w.drew.alloc (.cells ((xs ++ news).toArray ++ Builtin.zeroCells z.cells (grownCap w (n + m) old e - (n + m))) e)) row := by
    intro old row
    have hge := grownCap_ge w (n + m) old e
    have hcm : grownCap w (n + m) old e ≤ maxLen := grownCap_le_maxLen w (n + m) old e h63
    refine ⟨⟨hlen, .inr ⟨w.heap.size, _, _, rfl, hbase, heap_alloc_new w.drew _, hge, hcm, ?_, ?_⟩⟩, ⟨rfl, rfl, rfl, by simp, fun k hk _ => Below.heap_alloc w.drew _ k hk⟩⟩
    · rw [Array.size_append, List.size_toArray, size_zeroCells, hzs, hlen, ← Nat.add_mul]
      congr 1
      omega
    · rw [Array.toList_append, ← hlen]
      exact List.take_left
  rcases hown.2 with ⟨rfl, rfl⟩ | ⟨g, cap, cur, rfl, hbg, hg, hnc, hcm, hcs, htake⟩
  · have hx : xs = [] := List.eq_nil_of_length_eq_zero (by simpa using hown.1)
    subst hx
    by_cases hm : m = 0
    · subst hm
      have hn : news = [] := List.eq_nil_of_length_eq_zero (by simpa using hl)
      subst hn
      refine ⟨.slice none 0 0, w, ?_, World.ownsRow_nil w B e i.size, ⟨rfl, rfl, rfl, Nat.le_refl _, fun _ _ _ => rfl⟩, fun g h => .inl h, fun k => Nat.le_refl _⟩
      rcases hs.kind with ⟨e', hk⟩ | hk <;> simp [Builtin.append_, run_underlying ht, run_underlying hk, sizeOf, typeInfo, hi, hs.len, hs.cells, loadCells, loadCellsFrom]
    · have hr := run_append_grow_src (P := P) w t tx ty e i z ht hi hz none 0 0 [] (by simp [Builtin.firstCells, loadCells, loadCellsFrom]) x m news hs (by omega) (by omega) (growslice_fits (by omega) (by simpa using hbytes))
      have hgr := grown 0 (Value.ownBlock (.slice none 0 0))
      simp only [Nat.zero_add, List.nil_append] at hgr hr ⊢
      exact ⟨_, _, hr, hgr.1, hgr.2, fun g h => .inr (by simp only [Value.ownBlock, Option.some.injEq] at h; omega), fun k => V.bsize_alloc w.drew _ k⟩
  · by_cases hroom : n + m ≤ cap
    · have hfit : n * i.size + 0 + news.length ≤ cur.size := by rw [hl, hcs, Nat.add_zero, ← Nat.add_mul]; exact Nat.mul_le_mul_right _ hroom
      have hst := run_storeCells_at P g (n * i.size) e news 0 cur w hg (by simpa using hfit) hs.one
      simp only [Nat.add_zero] at hst hfit
      have hr : (Builtin.append_ #[t, tx] ty #[.slice (some ⟨g, 0, none⟩) n cap, x]).run P w = .ok (.slice (some ⟨g, 0, none⟩) (n + m) cap) (w.setRow g (cur.toList.take (n * i.size) ++ news ++ cur.toList.drop (n * i.size + news.length)).toArray) := by
        rcases hs.kind with ⟨e', hk⟩ | hk <;> simp [Builtin.append_, run_underlying ht, run_underlying hk, sizeOf, typeInfo, hi, hs.len, hroom, hs.cells, Addr.add_lit, hst]
      refine ⟨_, _, hr, ⟨hlen, .inr ⟨g, cap, _, rfl, hbg, setRow_heap w g cur _ e _ hg, hroom, hcm, ?_, ?_⟩⟩, ⟨rfl, rfl, rfl, by simp, fun k _ hk => setRow_other w g k _ (fun e => hk (by simp [Value.ownBlock, e]))⟩, fun g h => .inl h, fun k => bsize_setRow hg (by simp only [List.size_toArray, List.length_append, List.length_take, List.length_drop, Array.length_toList]; omega) k⟩
      · simp only [List.size_toArray, List.length_append, List.length_take, List.length_drop, Array.length_toList]
        omega
      · rw [htake, ← hlen]
        exact List.take_left
    · have holds : ∀ j u, xs[j]? = some u → w.drew.cell? ((⟨g, 0, none⟩ : Addr).add j) = some u := fun j u hu => by simpa using hown.cells (g := g) rfl j u hu
      have hold := run_firstCells_some (P := P) w.drew i.size n ⟨g, 0, none⟩ n cap xs hown.1 holds
      have hr := run_append_grow_src (P := P) w t tx ty e i z ht hi hz (some ⟨g, 0, none⟩) n cap xs hold x m news hs (by omega) (by omega) (growslice_fits (by omega) hbytes)
      have hgr := grown cap (Value.ownBlock (.slice (some ⟨g, 0, none⟩) n cap))
      exact ⟨_, _, hr, hgr.1, hgr.2, fun g h => .inr (by simp only [Value.ownBlock, Option.some.injEq] at h; omega), fun k => V.bsize_alloc w.drew _ k⟩
theorem app_run {P : Program} {w w' : World} {ops : Array Oper} {rest : List Oper} {o : Oper} {a : Act} {Q : Exit → Act → World → Prop} {t tx : Nat} (hgd : o.guard = none) (s x : Operand) (ho : o.op = .call { callee := .builtin .append, args := #[s, x], argTypes := #[t, tx] }) {v xv v' : Value}
    (hs : a.eval s = v) (hx : a.eval x = xv) (hr : (Builtin.append_ #[t, tx] o.type #[v, xv]).run P w = .ok v' w') (h : wpList P ops Q rest (a.put o.dst v') w') : wpList P ops Q (o :: rest) a w := by
  refine wpList_plain hgd fun K hK => ?_
  unfold Oper.wp execOp
  simp only [ho, resolve, invoke, builtin, Sem.run_bind, Sem.run_pure, Result.andThen_ok, List.map_toArray, List.map_cons, List.map_nil, hs, hx, hr]
  exact hK _ _ h
end Go.L
namespace Go.Proofs.YthejnchhddggmaaDoor
open Go.V Go.RowKit Go.U Go.L
set_option maxRecDepth 100000
set_option maxHeartbeats 2000000
theorem tPB : Tryd.prog.underlying 51 = some (.pointer 54) := by kernel_rfl
theorem tUP : Tryd.prog.underlying 95 = some .unsafePointer := by kernel_rfl
theorem sizeBld : (Tryd.prog.info? 54).map (·.size) = some 2 := by kernel_rfl
theorem liesBld : liesAt Tryd.prog Tryd.prog.depth 54 (2 / Tryd.prog.cellsOf 54) 0 54 1 = true := by kernel_rfl
abbrev bObj (p v : Value) : Obj := .cells #[p, v] 54 (0, 0)
theorem copy_used (b : Nat) (v : Value) (w : World) (hb : w.heap[b]? = some (bObj (.pointer (some ⟨b, 0, none⟩)) v)) :
    Calls Tryd.prog 47 #[.pointer (some ⟨b, 0, none⟩)] w fun e w' => e = .returned (.tuple #[]) ∧ w' = w := by
  have h0 : w.cell? ⟨b, 0, none⟩ = some (.pointer (some ⟨b, 0, none⟩)) := by rw [Lib.cell_of_heap hb]; rfl
  obtain ⟨j, hj, hjs⟩ := Option.map_eq_some_iff.1 sizeBld
  go_enter Tryd.func47, Tryd.ntmps47
  go_wp2
  rw [Lib.run_neq_ptr_same w _ tPB hj]
  go_wp2
  go_end0
  exact ⟨rfl, rfl⟩
theorem copy_fresh (b : Nat) (v : Value) (w : World) (hb : w.heap[b]? = some (bObj (.pointer none) v)) :
    Calls Tryd.prog 47 #[.pointer (some ⟨b, 0, none⟩)] w fun e w' => e = .returned (.tuple #[]) ∧ w' = w.setCell ⟨b, 0, none⟩ (.pointer (some ⟨b, 0, none⟩)) := by
  have h0 : w.cell? ⟨b, 0, none⟩ = some (.pointer none) := by rw [Lib.cell_of_heap hb]; rfl
  have hsh : w.shape? b = some (54, 2) := by simp [World.shape?, hb]
  have hfz : w.frozen? ⟨b, 0, none⟩ = false := Lib.frozen_of_heap hb 0
  obtain ⟨j, hj, hjs⟩ := Option.map_eq_some_iff.1 sizeBld
  go_enter Tryd.func47, Tryd.ntmps47
  go_wp2
  rw [Lib.run_to_unsafe w ⟨b, 0, none⟩ tPB tUP hj (by rw [hjs]; decide) hsh (Nat.zero_lt_succ 1)]
  simp only [Result.andThen]
  rw [Oper.upon_value]
  go_wp2
  rw [run_callFunc_extern Tryd.func59 (by kernel_rfl) (by kernel_rfl) (by kernel_rfl) (e := Extern.AbiNoEscape.same) (by kernel_rfl)]
  rw [Lib.run_noEscape]
  simp only [Result.andThen]
  rw [Oper.upon_value]
  go_wp2
  rw [Lib.run_from_unsafe w ⟨b, 0, none⟩ tUP tPB hj hsh liesBld]
  simp only [Result.andThen]
  rw [Oper.upon_value]
  go_wp2
  go_end0
  exact ⟨rfl, rfl⟩
theorem write_w (b : Nat) (p v : Value) (L l : List UInt8) (x : Value) (w : World) (hb : w.heap[b]? = some (bObj p v)) (hp : p = .pointer none ∨ p = .pointer (some ⟨b, 0, none⟩)) (hown : w.ownsRow 0 5 1 v L.length (u8s L)) (hne : v.ownBlock ≠ some b)
    (hsrc : Rd (w.setCell ⟨b, 0, none⟩ (.pointer (some ⟨b, 0, none⟩))) w.heap.size x l.length (u8s l)) (hlen : L.length + l.length ≤ 1000000000) :
    Calls Tryd.prog 25 #[.pointer (some ⟨b, 0, none⟩), x] w fun e w' => e = .returned (.tuple #[.int .i64 l.length, .nilIface]) ∧ ∃ v', w'.heap[b]? = some (bObj (.pointer (some ⟨b, 0, none⟩)) v') ∧ w'.ownsRow 0 5 1 v' (L ++ l).length (u8s (L ++ l)) ∧
      (∀ g, v'.ownBlock = some g → v.ownBlock = some g ∨ w.heap.size ≤ g) ∧ w'.os = w.os ∧ w'.tape = w.tape ∧ w'.output = w.output ∧ w.heap.size ≤ w'.heap.size ∧ (∀ k, k < w.heap.size → k ≠ b → some k ≠ v.ownBlock → w'.heap[k]? = w.heap[k]?) ∧ ∀ k, bsize w k ≤ bsize w' k := by
  obtain ⟨w1, hw1⟩ : ∃ w1, w1 = w.setCell ⟨b, 0, none⟩ (.pointer (some ⟨b, 0, none⟩)) := ⟨_, rfl⟩
  have hblt : b < w.heap.size := (Array.getElem?_eq_some_iff.1 hb).1
  have hB : Blk w b [p, v] 54 := .of hb
  have hb1 : w1.heap[b]? = some (bObj (.pointer (some ⟨b, 0, none⟩)) v) := by
    have h := hB.set 0 (.pointer (some ⟨b, 0, none⟩))
    rw [← hw1] at h
    obtain ⟨fz, h1, h2⟩ := h
    have := hB.setCell 0 (.pointer (some ⟨b, 0, none⟩))
    rw [hw1, this]
    exact setRow_heap w b _ _ _ _ hb
  have hoth1 : ∀ k, k ≠ b → w1.heap[k]? = w.heap[k]? := fun k hk => by
    rw [hw1, hB.setCell 0]; exact setRow_other _ _ _ _ hk
  have hsz1 : w1.heap.size = w.heap.size := by rw [hw1, hB.setCell 0]; exact setRow_size _ _ _
  have hos1 : w1.os = w.os ∧ w1.tape = w.tape ∧ w1.output = w.output := by rw [hw1, hB.setCell 0]; exact ⟨rfl, rfl, rfl⟩
  have hbz1 : ∀ k, bsize w k ≤ bsize w1 k := fun k => by rw [hw1, hB.setCell 0]; exact bsize_setRow hb (by simp) k
  have hcc : Calls Tryd.prog 47 #[.pointer (some ⟨b, 0, none⟩)] w fun e w' => e = .returned (.tuple #[]) ∧ w' = w1 := by
    rcases hp with rfl | rfl
    · exact (copy_fresh b v w hb).mono fun e w' h => by rw [hw1]; exact h
    · refine (copy_used b v w hb).mono fun e w' h => ?_
      have : w1 = w := by
        rw [hw1, hB.setCell 0]; exact hB.self
      rw [this]; exact h
  have hown1 : w1.ownsRow 0 5 1 v L.length (u8s L) := by
    obtain ⟨q1, q2⟩ := hown
    refine ⟨q1, ?_⟩
    rcases q2 with q2 | ⟨g, cap, cur, hv, q3, q4, q5⟩
    · exact .inl q2
    · exact .inr ⟨g, cap, cur, hv, q3, by rw [hoth1 g (fun e => hne (by rw [hv, e]; rfl))]; exact q4, q5⟩
  rw [← hw1] at hsrc
  have c0 : w1.cell? ⟨b, 0, none⟩ = some (.pointer (some ⟨b, 0, none⟩)) := by rw [Lib.cell_of_heap hb1]; rfl
  have c1 : w1.cell? ⟨b, 1, none⟩ = some v := by rw [Lib.cell_of_heap hb1]; rfl
  have hS := src_u8s hsrc
  obtain ⟨ax, capx, rfl, hxn, hrest⟩ := hsrc
  obtain ⟨v2, w2, hr, hown2, hgrow, hblk, hbz2⟩ := run_append_bld (ty := 52) infoU8 hown1 hS (Nat.zero_le _) (by unfold maxLen; omega) (by omega)
  have hb2 : w2.heap[b]? = some (bObj (.pointer (some ⟨b, 0, none⟩)) v) := by
    rw [hgrow.block b (by omega) (fun e => hne e.symm)]
    exact hb1
  have d0 : w2.cell? ⟨b, 0, none⟩ = some (.pointer (some ⟨b, 0, none⟩)) := by rw [Lib.cell_of_heap hb2]; rfl
  have d1 : w2.cell? ⟨b, 1, none⟩ = some v := by rw [Lib.cell_of_heap hb2]; rfl
  have f1 : w2.frozen? ⟨b, 1, none⟩ = false := Lib.frozen_of_heap hb2 1
  clear hS
  go_enter Tryd.func25, Tryd.ntmps25
  obtain ⟨ao, n', cap', rfl⟩ : ∃ ao n' cap', v2 = .slice ao n' cap' := by
    rcases hown2.2 with ⟨hv, _⟩ | ⟨g, cap, cur, hv, _⟩
    · exact ⟨_, _, _, hv⟩
    · exact ⟨_, _, _, hv⟩
  have hB2 : Blk w2 b [.pointer (some ⟨b, 0, none⟩), v] 54 := .of hb2
  have hfin : (w2.setCell ⟨b, 1, none⟩ (.slice ao n' cap')).heap[b]? = some (bObj (.pointer (some ⟨b, 0, none⟩)) (.slice ao n' cap')) := by
    rw [hB2.setCell 1]; exact setRow_heap w2 b _ _ _ _ hb2
  have hfo : ∀ k, k ≠ b → (w2.setCell ⟨b, 1, none⟩ (.slice ao n' cap')).heap[k]? = w2.heap[k]? := fun k hk => by
    rw [hB2.setCell 1]; exact setRow_other _ _ _ _ hk
  have hfs : (w2.setCell ⟨b, 1, none⟩ (.slice ao n' cap')).heap.size = w2.heap.size := by rw [hB2.setCell 1]; exact setRow_size _ _ _
  have hft : (w2.setCell ⟨b, 1, none⟩ (.slice ao n' cap')).os = w2.os ∧ (w2.setCell ⟨b, 1, none⟩ (.slice ao n' cap')).tape = w2.tape ∧ (w2.setCell ⟨b, 1, none⟩ (.slice ao n' cap')).output = w2.output := by rw [hB2.setCell 1]; exact ⟨rfl, rfl, rfl⟩
  have hbz3 : ∀ k, bsize w2 k ≤ bsize (w2.setCell ⟨b, 1, none⟩ (.slice ao n' cap')) k := fun k => by rw [hB2.setCell 1]; exact bsize_setRow hb2 (by simp) k
  have hEnd : ∃ v', (w2.setCell ⟨b, 1, none⟩ (.slice ao n' cap')).heap[b]? = some (bObj (.pointer (some ⟨b, 0, none⟩)) v') ∧ (w2.setCell ⟨b, 1, none⟩ (.slice ao n' cap')).ownsRow 0 5 1 v' (L ++ l).length (u8s (L ++ l)) ∧
      (∀ g, v'.ownBlock = some g → v.ownBlock = some g ∨ w.heap.size ≤ g) ∧ (w2.setCell ⟨b, 1, none⟩ (.slice ao n' cap')).os = w.os ∧ (w2.setCell ⟨b, 1, none⟩ (.slice ao n' cap')).tape = w.tape ∧ (w2.setCell ⟨b, 1, none⟩ (.slice ao n' cap')).output = w.output ∧ w.heap.size ≤ (w2.setCell ⟨b, 1, none⟩ (.slice ao n' cap')).heap.size ∧
      (∀ k, k < w.heap.size → k ≠ b → some k ≠ v.ownBlock → (w2.setCell ⟨b, 1, none⟩ (.slice ao n' cap')).heap[k]? = w.heap[k]?) ∧ ∀ k, bsize w k ≤ bsize (w2.setCell ⟨b, 1, none⟩ (.slice ao n' cap')) k := by
    have hnb : (Value.slice ao n' cap').ownBlock ≠ some b := fun e => by
      rcases hblk b e with h | h
      · exact hne h
      · omega
    refine ⟨_, hfin, ?_, fun g hg => ?_, hft.1.trans (hgrow.os.trans hos1.1), hft.2.1.trans (hgrow.tape.trans hos1.2.1), hft.2.2.trans (hgrow.output.trans hos1.2.2), ?_, fun k h1 h2 h3 => ?_, fun k => Nat.le_trans (hbz1 k) (Nat.le_trans (hbz2 k) (hbz3 k))⟩
    · have := bytes_own hown2 rfl rfl
      obtain ⟨q1, q2⟩ := this
      refine ⟨q1, ?_⟩
      rcases q2 with q2 | ⟨g, cap, cur, hv, q3, q4, q5⟩
      · exact .inl q2
      · exact .inr ⟨g, cap, cur, hv, q3, by rw [hfo g (fun e => hnb (by rw [hv, e]; rfl))]; exact q4, q5⟩
    · rcases hblk g hg with h | h
      · exact .inl h
      · exact .inr (by omega)
    · have := hgrow.size; omega
    · rw [hfo k h2, hgrow.block k (by omega) h3, hoth1 k h2]
  generalize hw5 : w2.setCell ⟨b, 1, none⟩ (.slice ao n' cap') = w5 at *
  clear hB hw1 hsz1 hoth1 hos1 hown1 hown2 hblk hrest hgrow hfin hfo hfs hft hB2 hown hbz1 hbz2 hbz3
  go_wp2_with (refine hcc.mono ?_)
  rintro e w3 ⟨rfl, rfl⟩
  go_wp2_with (at_builtin; refine app_run rfl _ _ rfl rfl rfl hr ?_)
  go_ret2
  exact ⟨rfl, hEnd⟩
theorem pU8 : Tryd.prog.underlying 79 = some (.pointer 5) := by kernel_rfl
theorem cellsU8 : Tryd.prog.cellsOf 5 = 1 := by kernel_rfl
theorem string_w (b : Nat) (p v : Value) (L : List UInt8) (w : World) (hb : w.heap[b]? = some (bObj p v)) (hown : w.ownsRow 0 5 1 v L.length (u8s L)) (h0 : L ≠ []) :
    Calls Tryd.prog 29 #[.pointer (some ⟨b, 0, none⟩)] w fun e w' => e = .returned (.string ⟨L.toArray⟩) ∧ ∃ g, v.ownBlock = some g ∧ w' = (w.drew).freeze ⟨g, 0, none⟩ L.length := by
  have hl0 : L.length ≠ 0 := by simpa using h0
  obtain ⟨g, cap, cur, rfl, hbg, hg, hnc, hcm, hcs, htake⟩ : ∃ g cap cur, v = .slice (some ⟨g, 0, none⟩) L.length cap ∧ 0 ≤ g ∧ w.heap[g]? = some (.cells cur 5 (0, 0)) ∧ L.length ≤ cap ∧ cap ≤ maxLen ∧ cur.size = cap * 1 ∧ cur.toList.take (L.length * 1) = u8s L := by
    rcases hown.2 with ⟨_, hz⟩ | ⟨g, cap, cur, hv, r⟩
    · exact absurd hz hl0
    · exact ⟨g, cap, cur, hv, r⟩
  have c1 : w.drew.cell? ⟨b, 1, none⟩ = some (.slice (some ⟨g, 0, none⟩) L.length cap) := by
    have : w.drew.heap[b]? = some (bObj p (.slice (some ⟨g, 0, none⟩) L.length cap)) := hb
    rw [Lib.cell_of_heap this]; rfl
  have hSD : (Builtin.unsafeSliceData_ #[52] 79 #[.slice (some ⟨g, 0, none⟩) L.length cap]).run Tryd.prog w.drew = .ok (.pointer (some ⟨g, 0, none⟩)) w.drew :=
    Lib.run_unsafeSliceData_row _ _ _ _ _ _ (by omega)
  have hUS : (Builtin.unsafeString_ #[79, 3] 9 #[.pointer (some ⟨g, 0, none⟩), .int .i64 L.length]).run Tryd.prog w.drew = .ok (.string ⟨L.toArray⟩) (w.drew.freeze ⟨g, 0, none⟩ L.length) := by
    refine Lib.run_unsafeString_row w.drew 79 3 9 5 pU8 cellsU8 g cur.size (by have hg' : w.drew.heap[g]? = some (.cells cur 5 (0, 0)) := hg; simp [World.shape?, hg']) L h0 (by omega) (by unfold maxLen at hcm; omega) ?_
    intro j x hx
    have := hown.cells (g := g) rfl j (.int .u8 x.toNat) (by simp [u8s, hx])
    exact this
  go_enter Tryd.func29, Tryd.ntmps29
  go_wp2
  go_region
  all_goals (go_wp2; go_ret; exact ⟨rfl, g, rfl, rfl⟩)
end Go.Proofs.YthejnchhddggmaaDoor
