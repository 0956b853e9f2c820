/- JournalSectors. Tables of a row as package variables by value. -/
import Derived.Test.YtmbldnahcmkpgaaDoorAw
import Derived.Test.YtmbldnahcmkpgaaDoorFr
import Derived.Test.YtmbldnahcmkpgaaDoorGd
import Derived.Test.YtmbldnahcmkpgaaDoorFd
import Derived.Lib.LaidTab
import Derived.Deep.DeepHandedRow
set_option linter.unusedSimpArgs false
set_option linter.unusedVariables false
namespace Go.V
open Go.RowKit Go.L
/-- A struct of three numbers, a string and a bool. -/
structure FivePart (P : Program) (t : TypeId) : Prop where
  und : ∃ f0 f1 f2 f3 f4 : Field, P.underlying t = some (.struct #[f0, f1, f2, f3, f4]) ∧ (f0.name ≠ "_" ∧ f1.name ≠ "_" ∧ f2.name ≠ "_" ∧ f3.name ≠ "_" ∧ f4.name ≠ "_") ∧ (f0.offset = 0 ∧ f1.offset = 1 ∧ f2.offset = 2 ∧ f3.offset = 3 ∧ f4.offset = 4) ∧
    P.underlying f0.type = some (.int .i64) ∧ P.underlying f1.type = some (.int .i64) ∧ P.underlying f2.type = some (.int .i64) ∧ P.underlying f3.type = some .string ∧ P.underlying f4.type = some .bool
  st : P.stoodInHeld t = false
  gd : P.eqGuardType P.depth t = false
theorem run_part_any {P : Program} {e : TypeId} {U : TypeDesc} (he : P.underlying e = some U) (hn : ∀ fs, U ≠ .struct fs) (hm : ∀ n x, U ≠ .array n x) (cs : Array Value) (i : Nat) {v : Value} (hv : cs[i]? = some v) (w : World) : (part e cs i).run P w = .ok v w := by
  have hag : (isAgg e).run P w = .ok false w := by
    cases U <;> first | (exact absurd rfl (hn _)) | (exact absurd rfl (hm _ _)) | simp [isAgg, run_underlying he]
  simp [part, hag, hv]
abbrev fiveA (a b c : Int) (s : List UInt8) (q : Bool) : AV := .pair (.int .i64 a) (.pair (.int .i64 b) (.pair (.int .i64 c) (.pair (.str s) (.pair (.bool q) .nul))))
theorem five_val {c : Ctx} {a b d : Int} {s : List UInt8} {q : Bool} {v : Value} (h : Rep c (fiveA a b d s q) .V [v]) : v = .agg #[.int .i64 a, .int .i64 b, .int .i64 d, .string ⟨s.toArray⟩, .bool q] := by
  obtain ⟨x0, y0, h1, h2, x1, y1, h3, h4, x2, y2, h5, h6, x3, y3, h7, h8, x4, y4, h9, h10, h11⟩ := h
  have h2 : x0 = [.int .i64 a] := h2
  have h4 : x1 = [.int .i64 b] := h4
  have h6 : x2 = [.int .i64 d] := h6
  have h8 : x3 = [.string ⟨s.toArray⟩] := h8
  have h10 : x4 = [.bool q] := h10
  have h11 : y4 = [] := h11
  subst h2 h4 h6 h8 h10 h11
  subst h9
  subst h7
  subst h5
  subst h3
  simpa using h1
theorem run_five {P : Program} {t : TypeId} (hT : FivePart P t) (w : World) (n : Nat) (a b c : Int) (s : List UInt8) (q : Bool) : (Op.equalIn (n + 1 + 1) t (.agg #[.int .i64 a, .int .i64 b, .int .i64 c, .string ⟨s.toArray⟩, .bool q]) (.agg #[.int .i64 a, .int .i64 b, .int .i64 c, .string ⟨s.toArray⟩, .bool q])).run P w = .ok true w := by
  obtain ⟨f0, f1, f2, f3, f4, hu, ⟨n0, n1, n2, n3, n4⟩, ⟨o0, o1, o2, o3, o4⟩, u0, u1, u2, u3, u4⟩ := hT.und
  have hf : P.fieldsOf t = #[f0, f1, f2, f3, f4] := by simp [Program.fieldsOf, hu]
  rw [run_equalIn_struct w (n + 1) t _ _ (by rw [hf]; exact hu) hT.st, hf]
  have p0 := run_part_any (v := .int .i64 a) u0 (fun _ h => by cases h) (fun _ _ h => by cases h) #[.int .i64 a, .int .i64 b, .int .i64 c, .string ⟨s.toArray⟩, .bool q] 0 rfl w
  have p1 := run_part_any (v := .int .i64 b) u1 (fun _ h => by cases h) (fun _ _ h => by cases h) #[.int .i64 a, .int .i64 b, .int .i64 c, .string ⟨s.toArray⟩, .bool q] 1 rfl w
  have p2 := run_part_any (v := .int .i64 c) u2 (fun _ h => by cases h) (fun _ _ h => by cases h) #[.int .i64 a, .int .i64 b, .int .i64 c, .string ⟨s.toArray⟩, .bool q] 2 rfl w
  have p3 := run_part_any (v := .string ⟨s.toArray⟩) u3 (fun _ h => by cases h) (fun _ _ h => by cases h) #[.int .i64 a, .int .i64 b, .int .i64 c, .string ⟨s.toArray⟩, .bool q] 3 rfl w
  have p4 := run_part_any (v := .bool q) u4 (fun _ h => by cases h) (fun _ _ h => by cases h) #[.int .i64 a, .int .i64 b, .int .i64 c, .string ⟨s.toArray⟩, .bool q] 4 rfl w
  have e0 := run_equalIn_int (P := P) w n f0.type .i64 .i64 a a u0
  have e1 := run_equalIn_int (P := P) w n f1.type .i64 .i64 b b u1
  have e2 := run_equalIn_int (P := P) w n f2.type .i64 .i64 c c u2
  have e3 := run_equalIn_string (P := P) w n f3.type ⟨s.toArray⟩ ⟨s.toArray⟩ u3
  have e4 := run_equalIn_bool (P := P) w n f4.type q q u4
  simp only [Op.eqFields, n0, n1, n2, n3, n4, o0, o1, o2, o3, o4, ne_eq, not_false_eq_true, if_true, Sem.run_bind, p0, p1, p2, p3, p4, Result.andThen_ok, e0, e1, e2, e3, e4, beq_self_eq_true, Bool.not_true, Bool.false_eq_true, if_false]
  rfl
variable {P : Program} {t yt ty : TypeId} {g e h : Asc} {x y : Operand} {d : Option Tmp} {pos : String} {af : Array Edge} {gd : Option (Nat × Bool)}
theorem five_eq (hT : FivePart P t) {a b c : Int} {s : List UInt8} {q : Bool} (hx : ev g e x = some (fiveA a b c s q)) (hy : ev g e y = some (fiveA a b c s q)) :
    OpOk P ⟨d, .binOp .eql t x y yt, ty, pos, af, gd⟩ g e h (some (.bool true)) h [] := by
  refine OpOk.val fun k ac he hh hc => ⟨.bool true, ?_, rfl⟩
  have hvx := five_val (ev_rep he hx)
  have hvy := five_val (ev_rep he hy)
  have heq : (Op.equal t (.agg #[.int .i64 a, .int .i64 b, .int .i64 c, .string ⟨s.toArray⟩, .bool q]) (.agg #[.int .i64 a, .int .i64 b, .int .i64 c, .string ⟨s.toArray⟩, .bool q])).run P k.w = .ok true k.w := run_five hT k.w 9998 a b c s q
  have hgd := run_eqGuard_agg k.w .eql t x y #[.int .i64 a, .int .i64 b, .int .i64 c, .string ⟨s.toArray⟩, .bool q] #[.int .i64 a, .int .i64 b, .int .i64 c, .string ⟨s.toArray⟩, .bool q] hT.gd
  simp only [execOp, hvx, hvy, Sem.run_bind, hgd, Result.andThen_ok, binOp, heq, Sem.run_pure]
end Go.V
namespace Go.Proofs.YtmbldnahcmkpgaaDoor
open Go.V Go.RowKit Go.L Go.Lx Go.Jn Go.Dk
set_option maxRecDepth 20000
set_option maxHeartbeats 4000000
theorem five_part : FivePart Tryd.prog 30 where
  und := ⟨_, _, _, _, _, rfl, ⟨by decide, by decide, by decide, by decide, by decide⟩, ⟨rfl, rfl, rfl, rfl, rfl⟩, rfl, rfl, rfl, rfl, rfl⟩
  st := by kernel_rfl
  gd := by kernel_rfl
def gA : Asc := [(2, u32A 64 Sha.kTab), (0, u32A 64 Sha.kTab)]
theorem gA_ok : GOk gA := by
  intro x v h
  unfold gA at h
  rw [get?_cons] at h
  split at h
  · cases h; exact ⟨fun i hi => trivial, fun i hi => trivial⟩
  · rw [get?_cons] at h
    split at h
    · cases h; exact ⟨fun i hi => trivial, fun i hi => trivial⟩
    · cases h
theorem gK_sub : subG gK gA := by
  intro x v h
  unfold gK at h
  rw [get?_cons] at h
  split at h
  · rename_i e; subst e; cases h; rfl
  · cases h
theorem gR_sub : subG gR gA := by
  intro x v h
  unfold gR at h
  rw [get?_cons] at h
  split at h
  · rename_i e; subst e; cases h; rfl
  · cases h
theorem sectors_law (n : Int) (hn : I64 n) (t s : Bs) (ht : t.length ≤ 9223372036854775807) (hs : s.length ≤ 9223372036854775807) : Ok Tryd.prog 3 gA [] (.pair (.int .i64 n) (.pair (.str t) (.pair (.str s) .nul))) (fun r h' => r = .bool true ∧ h' = []) := by
  have csan := sanity_ok
  by_cases h9 : 9000 < t.length
  · refine Ok.of_vcC tt_ok Tryd.func3 rfl rfl (by show 3 ≤ _; decide) 0 (hlt_ok (by rfl)) fun c0 => ?_
    repeat' (first | (refine SS_ ?_) | (refine Seq.callp false (csan) Tryd.func5 gA_ok gK_sub (by rfl) (by rfl) rfl rfl rfl rfl rfl (by rfl) rfl VW_ NI_ NI_ FR_ ?_) | (refine VC.litT (by rfl) LTR_ ?_) | fail)
    (refine retC_mk ([(6, .bool true)]) ([]) 0 (Sim.less [] (by rfl) R_ R_) (retQ_ok (by rfl) ([]) (fun i av h => h) ⟨?_, ?_⟩)) <;> rfl
  · have hu := junpack_ok s hs
    have hr := runpack_ok s hs
    have c1 := count_ok t.length ⟨by omega, by omega⟩
    have c2 := rcount_ok t.length ⟨by omega, by omega⟩
    have c3 := count_ok n hn
    have c4 := rcount_ok n hn
    generalize hx1 : cnt (t.length : Int) = x1 at c1 c2
    generalize hx2 : cnt n = x2 at c3 c4
    generalize unp s = p at *
    by_cases he : packE n t = 0
    · have hin : 1 ≤ n ∧ n ≤ 4096 ∧ t.length ≤ 8000 := by
        unfold packE at he
        split at he
        · cases he
        · split at he
          · cases he
          · omega
      obtain ⟨m, rfl⟩ : ∃ m : Nat, n = (m : Nat) := ⟨n.toNat, by omega⟩
      have ck := pack_own m t (by omega) (by omega) (by omega)
      have cr := rpack_own m t (by omega) (by omega) (by omega)
      have hL : (parts m t).length ≤ 9223372036854775807 := by rw [parts_len]; have := cnt_le t.length; omega
      generalize parts m t = L at *
      have s1 := sameTx_ok L L hL hL
      rw [decide_eq_true rfl] at s1
      refine Ok.of_vcC tt_ok Tryd.func3 rfl rfl (by show 3 ≤ _; decide) 0 (hlt_ok (by rfl)) fun c0 => ?_
      repeat' (first | (refine SS_ ?_) | (refine Seq.callo false [] [(0, 5)] (.tup (.pair (.sl 0 [] 1 0 L.length) (.pair (.int .i64 0) .nul))) ([(0, txO L)]) 1 (ck) Tryd.func6 gA_ok gK_sub (by rfl) (by rfl) rfl rfl rfl rfl rfl (by rfl) rfl (by rfl) (by rfl) (by rfl) (by rfl) VW_ NI_ R_ (noFrL_ok NI_) BK_ ?_) | (refine Seq.callo false [] [(1, 0)] (.tup (.pair (.sl 1 [] 1 0 L.length) (.pair (.int .i64 0) .nul))) ([(1, txO L)]) 2 (cr) Tryd.func7 gA_ok gR_sub (by rfl) (by rfl) rfl rfl rfl rfl rfl (by rfl) rfl (by rfl) (by rfl) (by rfl) (by rfl) VW_ NI_ R_ (noFrL_ok NI_) BK_ ?_) | (refine Seq.callp false (hu) Tryd.func8 gA_ok gK_sub (by rfl) (by rfl) rfl rfl rfl rfl rfl (by rfl) rfl VW_ NI_ NI_ FR_ ?_) | (refine Seq.callp false (hr) Tryd.func9 gA_ok gR_sub (by rfl) (by rfl) rfl rfl rfl rfl rfl (by rfl) rfl VW_ NI_ NI_ FR_ ?_) | (refine Seq.callp false (csan) Tryd.func5 gA_ok gK_sub (by rfl) (by rfl) rfl rfl rfl rfl rfl (by rfl) rfl VW_ NI_ NI_ FR_ ?_) | (refine Seq.callp true (s1) Tryd.func10 gA_ok subG.nil (by rfl) (by rfl) rfl rfl rfl rfl rfl (by rfl) rfl VW_ NI_ NI_ FR_ ?_) | (refine Seq.val (five_eq five_part (by rfl) (by rfl)) (by rfl) (by rfl) ?_) | (refine Seq.callp false (c1) Tryd.func11 gA_ok subG.nil (by rfl) (by rfl) rfl rfl rfl rfl rfl (by rfl) rfl VW_ NI_ NI_ FR_ ?_) | (refine Seq.callp false (c2) Tryd.func12 gA_ok subG.nil (by rfl) (by rfl) rfl rfl rfl rfl rfl (by rfl) rfl VW_ NI_ NI_ FR_ ?_) | (refine Seq.callp false (c3) Tryd.func11 gA_ok subG.nil (by rfl) (by rfl) rfl rfl rfl rfl rfl (by rfl) rfl VW_ NI_ NI_ FR_ ?_) | (refine Seq.callp false (c4) Tryd.func12 gA_ok subG.nil (by rfl) (by rfl) rfl rfl rfl rfl rfl (by rfl) rfl VW_ NI_ NI_ FR_ ?_) | (refine Seq.lit (by rfl) (by rfl) LT2_ ?_) | (refine VC.litF (by rfl) LFA_ ?_) | fail)
      rw [show decide ((x2 : Int) = (x2 : Int)) = true from decide_eq_true rfl]
      (refine retC_mk ([(6, .bool true)]) ([]) 3 (Sim.less [] (by rfl) R_ R_) (retQ_ok (by rfl) ([]) (fun i av h => h) ⟨?_, ?_⟩)) <;> rfl
    · have hm : 8000 < t.length ∨ ¬(1 ≤ n ∧ n ≤ 4096) := by
        unfold packE at he
        split at he
        · right; omega
        · split at he
          · left; assumption
          · exact absurd rfl he
      have ck := pack_no n hn t ht he
      have cr := rpack_no n hn t ht he
      have s1 := sameTx_ok [] [] (by decide) (by decide)
      rw [decide_eq_true rfl] at s1
      generalize packE n t = e at *
      refine Ok.of_vcC tt_ok Tryd.func3 rfl rfl (by show 3 ≤ _; decide) 0 (hlt_ok (by rfl)) fun c0 => ?_
      repeat' (first | (refine SS_ ?_) | (refine Seq.callp false (ck) Tryd.func6 gA_ok gK_sub (by rfl) (by rfl) rfl rfl rfl rfl rfl (by rfl) rfl VW_ NI_ NI_ FR_ ?_) | (refine Seq.callp false (cr) Tryd.func7 gA_ok gR_sub (by rfl) (by rfl) rfl rfl rfl rfl rfl (by rfl) rfl VW_ NI_ NI_ FR_ ?_) | (refine Seq.callp false (hu) Tryd.func8 gA_ok gK_sub (by rfl) (by rfl) rfl rfl rfl rfl rfl (by rfl) rfl VW_ NI_ NI_ FR_ ?_) | (refine Seq.callp false (hr) Tryd.func9 gA_ok gR_sub (by rfl) (by rfl) rfl rfl rfl rfl rfl (by rfl) rfl VW_ NI_ NI_ FR_ ?_) | (refine Seq.callp false (csan) Tryd.func5 gA_ok gK_sub (by rfl) (by rfl) rfl rfl rfl rfl rfl (by rfl) rfl VW_ NI_ NI_ FR_ ?_) | (refine Seq.callp true (s1) Tryd.func10 gA_ok subG.nil (by rfl) (by rfl) rfl rfl rfl rfl rfl (by rfl) rfl VW_ NI_ NI_ FR_ ?_) | (refine Seq.val (five_eq five_part (by rfl) (by rfl)) (by rfl) (by rfl) ?_) | (refine Seq.callp false (c1) Tryd.func11 gA_ok subG.nil (by rfl) (by rfl) rfl rfl rfl rfl rfl (by rfl) rfl VW_ NI_ NI_ FR_ ?_) | (refine Seq.callp false (c2) Tryd.func12 gA_ok subG.nil (by rfl) (by rfl) rfl rfl rfl rfl rfl (by rfl) rfl VW_ NI_ NI_ FR_ ?_) | (refine Seq.callp false (c3) Tryd.func11 gA_ok subG.nil (by rfl) (by rfl) rfl rfl rfl rfl rfl (by rfl) rfl VW_ NI_ NI_ FR_ ?_) | (refine Seq.callp false (c4) Tryd.func12 gA_ok subG.nil (by rfl) (by rfl) rfl rfl rfl rfl rfl (by rfl) rfl VW_ NI_ NI_ FR_ ?_) | (refine Seq.lit (by rfl) (by rfl) LT2_ ?_) | (refine VC.litF (by rfl) LFA_ ?_) | fail)
      rw [show decide ((x2 : Int) = (x2 : Int)) = true from decide_eq_true rfl]
      (refine retC_mk ([(6, .bool true)]) ([]) 1 (Sim.less [] (by rfl) R_ R_) (retQ_ok (by rfl) ([]) (fun i av h => h) ⟨?_, ?_⟩)) <;> rfl
end Go.Proofs.YtmbldnahcmkpgaaDoor

namespace Go.Proofs.YtmbldnahcmkpgaaDoor
open Go.V Go.RowKit Go.U Go.L
theorem rep_tab {P : Program} {W : World} {name : String} {g n : Nat} {l : List UInt32} (h : Lib.TabIs P W name .u32 (l.map fun x => ((x.toNat : Nat) : Int))) (hg : P.globalNamed name = some g) (hl : l.length = n) (h0 : 0 < n) :
    Rep (ctxAt W) (.rptr false (u32A n l)) .V [.pointer (some ⟨g, 0, none⟩)] := by
  have hc : ∀ j u, (u32s l)[j]? = some u → W.cell? ⟨g, 0 + j, none⟩ = some u := fun j u hu => by
    rw [Nat.zero_add]
    have hj : j < l.length := by
      rcases Nat.lt_or_ge j l.length with h1 | h1
      · exact h1
      · rw [List.getElem?_eq_none (by simpa [u32s] using h1)] at hu; cases hu
    rw [h.cell hg j (by simpa using hj), ← hu]
    simp [u32s, hj]
  obtain ⟨x, hx⟩ : ∃ x, (u32s l)[0]? = some x := ⟨_, List.getElem?_eq_getElem (by simp [u32s]; omega)⟩
  have h1 := hc 0 x hx
  exact ⟨_, 0, u32s l, rfl, cell_lt (a := ⟨g, 0 + 0, none⟩) h1, (fun e => by cases e), hc, (rep_u32A hl).2 rfl⟩
theorem laid_tail {P : Program} {W : World} {x : String × DataW Unit} {l : List (String × DataW Unit)} (h : laidMet P (x :: l) W) : laidMet P l W := by
  obtain ⟨ps, ⟨g, t, cs, fuel, p, q, _, _, _, _, hr, rfl⟩, hn, hc⟩ := h
  exact ⟨q, hr, (List.nodup_append.1 hn).2.1, fun b off hb => hc b off (List.mem_append_right _ hb)⟩
end Go.Proofs.YtmbldnahcmkpgaaDoor
