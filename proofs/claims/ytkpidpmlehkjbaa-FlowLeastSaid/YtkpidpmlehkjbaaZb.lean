/- Flow: the reference's first circulation. -/
import Derived.Test.YtkpidpmlehkjbaaWx
import Derived.Test.YtkpidpmlehkjbaaZa
set_option linter.unusedSimpArgs false
set_option linter.unusedVariables false
namespace Go.Fl
theorem fst1_0 {n : Nat} {l : List Ed} {q : Nat} {F : List Int} (h : top (bals n l F) n < 0) : fst1 n l (q + 1) F = some F := by rw [fst1, if_pos h]
theorem fst1_1 {n : Nat} {l : List Ed} {q : Nat} {F : List Int} {P : List Nat} (h : ¬ top (bals n l F) n < 0) (hP : (wyF n l F (top (bals n l F) n)).1 = some P) : fst1 n l (q + 1) F = fst1 n l q (pus 1 F P) := by rw [fst1, if_neg h, hP]
theorem fst1_2 {n : Nat} {l : List Ed} {q : Nat} {F : List Int} (h : ¬ top (bals n l F) n < 0) (hP : (wyF n l F (top (bals n l F) n)).1 = none) : fst1 n l (q + 1) F = none := by rw [fst1, if_neg h, hP]
theorem los_step {l : List Ed} {k : Nat} (hk : k < l.length) : los (l.take (k + 1)) = los (l.take k) ++ [(l.getD k edZ).lo] := by
  unfold los
  rw [Go.Lx.take_snoc (d := edZ) hk, List.map_append]; rfl
/-- The reference's first circulation. -/
def fstO (n : Nat) (l : List Ed) : Option (List Int) := fst1 n l (fq n l) (los l)
end Go.Fl
namespace Go.Proofs.Ytkpidpmlehkjbaa
open Go.V Go.RowKit Go.L Go.Lx Go.Fl
set_option maxRecDepth 10000
set_option maxHeartbeats 4000000
def fsV : Option (List Int) → AV
  | some G => .tup (.pair (.sl 0 [] 1 0 G.length) (.pair (.bool true) .nul))
  | none => .tup (.pair (.val (.slice none 0 0)) (.pair (.bool false) .nul))
def fsR : Option (List Int) → Asc
  | some G => [(0, liO G)]
  | none => []
theorem first_walk {n : Nat} {l : List Ed} (ok : NetOk n l) : Ok Try.prog 25 [] [] (.pair (.int .i64 (n : Nat)) (.pair (edV l) .nul)) (fun r h' => r = fsV (fstO n l) ∧ h' = fsR (fstO n l)) := by
  have hn := ok.nodes
  have hn64 := ok.n64
  have hl256 := ok.l256
  refine Ok.of_vcC tt_ok Try.func25 rfl rfl (by show 2 ≤ _; decide) 0 (hlt_ok (by rfl)) fun c0 => ?_
  repeat' (first | (refine SS_ ?_) | fail)
  refine VC.conv (Sim.ghost 6 1 (fun _ => .nul) (by rfl) (.inl rfl)) ?_
  refine VC.loop (fun k : Nat => ⟨[(7, .int .i64 (k : Nat)), (6, .sl 0 [] 1 0 (los (l.take k)).length), (1, edV l), (0, .int .i64 (n : Nat))], [(0, liO (los (l.take k)))], [], 1⟩) (fun k => k ≤ l.length) (fun k => l.length - k) 0 (by omega) (by
    (refine Sim.less [] (by rfl) ?_ ?_ <;> (repeat' (first | (exact EnvLe.nil) | (exact HeapLe.nil) | (with_reducible apply EnvLe.cons) | (with_reducible apply HeapLe.cons) | ((with_reducible refine RelA.int ?_; first | (refine Keep.mk ?_; first | with_reducible rfl | omega | decide) | skip)) | (exact rfl) | (exact ⟨rfl, rfl⟩) | ((with_reducible refine RelA.rsl ?_; intro i hi)) | (with_reducible refine RelA.pair ?_ ?_) | ((refine RelA.arr ?_; intro i hi)) | fail)) <;> (try with_reducible refine Keep.mk ?_))
    exact absurd hi (Nat.not_lt_zero _)) fun k hk => ?_
  have htl : (los (l.take k)).length = k := by rw [los, List.length_map, List.length_take]; omega
  by_cases hkl : k < l.length
  · have hst := los_step hkl
    have hkk : ((k : Nat) : Int).toNat = k := Int.toNat_natCast k
    generalize hT : los (l.take (k + 1)) = T2 at *
    generalize los (l.take k) = T at *
    repeat' (first | (refine SS_ ?_) | (refine VC.litT (by rfl) LTR_ ?_) | fail)
    refine ⟨k + 1, by omega, by omega, ?_⟩
    show ∀ a w, _ → Sim _ ⟨[(7, .int .i64 ((k + 1 : Nat) : Int)), (6, .sl 0 [] 1 0 (los (l.take (k + 1))).length), (1, edV l), (0, .int .i64 (n : Nat))], [(0, .arr (los (l.take (k + 1))).length 1 (fun i => .int .i64 ((los (l.take (k + 1))).getD i 0)))], [], 1⟩ a w
    rw [hT, hst, List.length_append, List.length_singleton]
    (refine Sim.less [(0, 2)] (by rfl) ?_ ?_ <;> (repeat' (first | (exact EnvLe.nil) | (exact HeapLe.nil) | (with_reducible apply EnvLe.cons) | (with_reducible apply HeapLe.cons) | ((with_reducible refine RelA.int ?_; first | (refine Keep.mk ?_; first | with_reducible rfl | omega | decide) | skip)) | (exact rfl) | (exact ⟨rfl, rfl⟩) | ((with_reducible refine RelA.rsl ?_; intro i hi)) | (with_reducible refine RelA.pair ?_ ?_) | ((refine RelA.arr ?_; intro i hi)) | fail)) <;> (try with_reducible refine Keep.mk ?_))
    rw [← hkk]
    exact rel_snocG (G := fun q : Int => .int .i64 q) (fun e => NI_) (by assumption) (by rfl)
  · obtain rfl : k = l.length := by omega
    rw [List.take_of_length_le (Nat.le_refl _)] at htl ⊢
    repeat' (first | (refine SS_ ?_) | (refine VC.litF (by rfl) LFA_ ?_) | fail)
    refine VC.loop (fun k : Nat × List Int => ⟨[(6, .sl 0 [] 1 0 l.length), (1, edV l), (0, .int .i64 (n : Nat))], [(0, liO k.2)], [], 1⟩) (fun k => inB l k.2 ∧ exc n l k.2 < k.1 ∧ fst1 n l k.1 k.2 = fstO n l) (fun k => k.1) (fq n l, los l) ⟨los_in fun e he => (ok.ed e he).2.2.2.2.2.1, by show exc n l (los l) < ((fq n l : Nat) : Int); unfold fq; have := exc_nn n l (los l); omega, rfl⟩ (by
      rw [← htl]
      exact (Sim.less [] (by rfl) R_ R_)) fun k hk => ?_
    obtain ⟨q, F⟩ := k
    obtain ⟨hF, hq, hb⟩ := hk
    replace hF : inB l F := hF
    replace hq : exc n l F < q := hq
    replace hb : fst1 n l q F = fstO n l := hb
    have hlen := (inB_iff.1 hF).1
    obtain ⟨q, rfl⟩ : ∃ q', q = q' + 1 := ⟨q - 1, by have := exc_nn n l F; omega⟩
    rw [← hb]
    have c1 := rbalance_ok ok hF
    refine VC.conv (s' := ⟨[(6, .sl 0 [] 1 0 l.length), (1, edV l), (0, .int .i64 (n : Nat))], [(0, liO F)], [], 1⟩) (fun a w h => h) ?_
    repeat' (first | (refine SS_ ?_) | (refine Seq.calln true (c1) Try.func38 GOk.nil subG.nil (by rfl) (by rfl) rfl rfl rfl rfl rfl (by rfl) rfl VW_ NI_ NI_ FR_ ?_) | fail)
    have hbl : (bals n l F).length = n := bals_eq
    refine VC.loop (fun k : Nat => ⟨[(10, .int .i64 (k : Nat)), (9, .int .i64 (top (bals n l F) k)), (8, .sl 1 [] 1 0 n), (6, .sl 0 [] 1 0 l.length), (1, edV l), (0, .int .i64 (n : Nat))], [(1, .arr n 1 (fun i => .int .i64 ((bals n l F).getD i 0))), (0, liO F)], [], 2⟩) (fun k => k ≤ n) (fun k => n - k) 0 (by omega) (by
      show ∀ a w, _ → Sim _ ⟨[(10, .int .i64 ((0 : Nat) : Int)), (9, .int .i64 (-1)), (8, .sl 1 [] 1 0 n), (6, .sl 0 [] 1 0 l.length), (1, edV l), (0, .int .i64 (n : Nat))], [(1, .arr n 1 (fun i => .int .i64 ((bals n l F).getD i 0))), (0, liO F)], [], 2⟩ a w
      exact (Sim.less [] (by rfl) R_ R_)) fun k hk => ?_
    by_cases hkn : k < n
    · have hkk : ((k : Nat) : Int).toNat = k := Int.toNat_natCast k
      have ht : top (bals n l F) (k + 1) = if 0 < (bals n l F).getD (0 + ((k : Nat) : Int).toNat) 0 then (k : Int) else top (bals n l F) k := by rw [hkk, Nat.zero_add]; rfl
      by_cases hp : 0 < (bals n l F).getD (0 + ((k : Nat) : Int).toNat) 0
      · rw [if_pos hp] at ht
        repeat' (first | (refine SS_ ?_) | (refine VC.litT (by rfl) LTR_ ?_) | fail)
        refine ⟨k + 1, by omega, by omega, ?_⟩
        show ∀ a w, _ → Sim _ ⟨[(10, .int .i64 ((k + 1 : Nat) : Int)), (9, .int .i64 (top (bals n l F) (k + 1))), (8, .sl 1 [] 1 0 n), (6, .sl 0 [] 1 0 l.length), (1, edV l), (0, .int .i64 (n : Nat))], [(1, .arr n 1 (fun i => .int .i64 ((bals n l F).getD i 0))), (0, liO F)], [], 2⟩ a w
        rw [ht]
        exact (Sim.less [] (by rfl) R_ R_)
      · rw [if_neg hp] at ht
        repeat' (first | (refine SS_ ?_) | (refine VC.litT (by rfl) LTR_ ?_) | (refine VC.litF (by rfl) LFA_ ?_) | fail)
        refine ⟨k + 1, by omega, by omega, ?_⟩
        show ∀ a w, _ → Sim _ ⟨[(10, .int .i64 ((k + 1 : Nat) : Int)), (9, .int .i64 (top (bals n l F) (k + 1))), (8, .sl 1 [] 1 0 n), (6, .sl 0 [] 1 0 l.length), (1, edV l), (0, .int .i64 (n : Nat))], [(1, .arr n 1 (fun i => .int .i64 ((bals n l F).getD i 0))), (0, liO F)], [], 2⟩ a w
        rw [ht]
        exact (Sim.less [] (by rfl) R_ R_)
    · obtain rfl : k = n := by omega
      have htop := top_ok (bals k l F) k
      by_cases ht : top (bals k l F) k < 0
      · rw [fst1_0 ht]
        repeat' (first | (refine SS_ ?_) | (refine VC.litT (by rfl) LTR_ ?_) | (refine VC.litF (by rfl) LFA_ ?_) | fail)
        refine retC_mk ([(4, .sl 0 [] 1 0 l.length), (5, .bool true)]) ([(0, liO F)]) 2 ?_ (retQ_ok (by rfl) ([(0, liO F)]) (fun i av h => h) ⟨?_, ?_⟩)
        · exact (Sim.less [] (by rfl) R_ R_)
        · show _ = AV.tup (.pair (.sl 0 [] 1 0 F.length) (.pair (.bool true) .nul))
          rw [hlen]
        · rfl
      · have htb : 0 ≤ top (bals k l F) k ∧ top (bals k l F) k < k := by
          rcases htop with ⟨h1, _⟩ | ⟨h1, h2, _⟩
          · omega
          · exact ⟨h1, h2⟩
        have c2 := rway_ok ok hF hbl k (List.replicate k false) (top (bals k l F) k) (by simp) (by rw [unm_rep]; exact Nat.le_refl _) htb.1 htb.2 (by rw [List.getD_eq_getElem?_getD, List.getElem?_replicate]; split <;> rfl)
        have w1 := wyF_ok (F := F) hn htb.1 htb.2
        have hfp := fun P => fpush (P := P) hn hF ht
        rw [show wy (bals k l F) l F k (List.replicate k false) (top (bals k l F) k) = wyF k l F (top (bals k l F) k) from rfl] at c2
        have h1 := fun P => fst1_1 (q := q) (P := P) ht
        have h2 := fst1_2 (q := q) ht
        generalize wyF k l F (top (bals k l F) k) = r at *
        obtain ⟨r1, M'⟩ := r
        have hml : M'.length = k := by
          have := w1.sub.1
          rw [List.length_replicate] at this
          exact this
        cases r1 with
        | some P =>
          obtain ⟨f1, f2, f3⟩ := hfp P rfl
          rw [h1 P rfl]
          generalize hG : pus 1 F P = G at *
          replace c2 : Ok Try.prog 40 [] [(0, liO F), (1, .arr (List.replicate k false).length 1 (fun i => .bool ((List.replicate k false).getD i false)))] (wyA k l (bals k l F) (top (bals k l F) k)) (fun r h' => r = .bool true ∧ h' = wyH G M') := by rw [← hG]; exact c2
          rw [List.length_replicate] at c2
          repeat' (first | (refine SS_ ?_) | (refine VC.litF (by rfl) LFA_ ?_) | fail)
          refine Seq.conv (s' := ⟨[(48, .int .i64 (top (bals k l F) k)), (47, .sl 2 [] 1 0 k), (45, .sl 1 [] 1 0 k), (44, .sl 0 [] 1 0 l.length), (43, edV l), (6, .sl 0 [] 1 0 l.length), (1, edV l), (0, .int .i64 (k : Nat))], [(2, .arr k 1 (fun i => .bool ((List.replicate k false).getD i false))), (1, .arr k 1 (fun i => .int .i64 ((bals k l F).getD i 0))), (0, liO F)], [], 3⟩) (by
            (refine Sim.less [] (by rfl) ?_ ?_ <;> (repeat' (first | (exact EnvLe.nil) | (exact HeapLe.nil) | (with_reducible apply EnvLe.cons) | (with_reducible apply HeapLe.cons) | ((with_reducible refine RelA.int ?_; first | (refine Keep.mk ?_; first | with_reducible rfl | omega | decide) | skip)) | (exact rfl) | (exact ⟨rfl, rfl⟩) | ((with_reducible refine RelA.rsl ?_; intro i hi)) | ((with_reducible refine RelA.arr ?_; intro i hi)) | (with_reducible refine RelA.pair ?_ ?_) | ((refine RelA.arr ?_; intro i hi)) | fail)) <;> (try with_reducible refine Keep.mk ?_))
            rw [show (List.replicate k false).getD i false = false from by rw [List.getD_eq_getElem?_getD, List.getElem?_replicate]; split <;> rfl]
            exact NoId.self (a := .bool false) NI_) ?_
          repeat' (first | (refine SS_ ?_) | (refine Seq.callo true [(1, 2)] [(2, 1)] (.bool true) ([(0, liO G), (2, boO M')]) 3 (c2) Try.func40 GOk.nil subG.nil (by rfl) (by rfl) rfl rfl rfl rfl rfl (by rfl) rfl (by rfl) (by rfl) (by rfl) (by rfl) VW_ NI_ R_ (noFrL_ok NI_) BK_ ?_) | (refine VC.litF (by rfl) LFA_ ?_) | fail)
          refine ⟨(q, G), ⟨f1, by show exc k l G < (q : Int); omega, rfl⟩, by show q < q + 1; omega, ?_⟩
          exact (Sim.less [] (by rfl) R_ R_)
        | none =>
          rw [h2 rfl]
          replace c2 : Ok Try.prog 40 [] [(0, liO F), (1, .arr (List.replicate k false).length 1 (fun i => .bool ((List.replicate k false).getD i false)))] (wyA k l (bals k l F) (top (bals k l F) k)) (fun r h' => r = .bool false ∧ h' = wyH F M') := c2
          rw [List.length_replicate] at c2
          repeat' (first | (refine SS_ ?_) | (refine VC.litF (by rfl) LFA_ ?_) | fail)
          refine Seq.conv (s' := ⟨[(48, .int .i64 (top (bals k l F) k)), (47, .sl 2 [] 1 0 k), (45, .sl 1 [] 1 0 k), (44, .sl 0 [] 1 0 l.length), (43, edV l), (6, .sl 0 [] 1 0 l.length), (1, edV l), (0, .int .i64 (k : Nat))], [(2, .arr k 1 (fun i => .bool ((List.replicate k false).getD i false))), (1, .arr k 1 (fun i => .int .i64 ((bals k l F).getD i 0))), (0, liO F)], [], 3⟩) (by
            (refine Sim.less [] (by rfl) ?_ ?_ <;> (repeat' (first | (exact EnvLe.nil) | (exact HeapLe.nil) | (with_reducible apply EnvLe.cons) | (with_reducible apply HeapLe.cons) | ((with_reducible refine RelA.int ?_; first | (refine Keep.mk ?_; first | with_reducible rfl | omega | decide) | skip)) | (exact rfl) | (exact ⟨rfl, rfl⟩) | ((with_reducible refine RelA.rsl ?_; intro i hi)) | ((with_reducible refine RelA.arr ?_; intro i hi)) | (with_reducible refine RelA.pair ?_ ?_) | ((refine RelA.arr ?_; intro i hi)) | fail)) <;> (try with_reducible refine Keep.mk ?_))
            rw [show (List.replicate k false).getD i false = false from by rw [List.getD_eq_getElem?_getD, List.getElem?_replicate]; split <;> rfl]
            exact NoId.self (a := .bool false) NI_) ?_
          repeat' (first | (refine SS_ ?_) | (refine Seq.callo true [(1, 2)] [(2, 1)] (.bool false) ([(0, liO F), (2, boO M')]) 3 (c2) Try.func40 GOk.nil subG.nil (by rfl) (by rfl) rfl rfl rfl rfl rfl (by rfl) rfl (by rfl) (by rfl) (by rfl) (by rfl) VW_ NI_ R_ (noFrL_ok NI_) BK_ ?_) | (refine VC.litT (by rfl) LTR_ ?_) | fail)
          exact retC_mk [(4, .val (.slice none 0 0)), (5, .bool false)] [] 3 (Sim.less [] (by rfl) R_ R_) (retQ_ok (by rfl) [] nil_sub ⟨rfl, rfl⟩)
/-- The list behind an option. -/
def optL (o : Option (List Int)) : List Int := o.getD []
abbrev lsV (l : List Int) : AV := .rsl true l.length 1 (fun i => .int .i64 (l.getD i 0))
theorem viewT_li {H : Asc} {id n : Nat} {l : List Int} {f : Nat → AV} (h : get? H id = some (.arr n 1 f)) (hl : l.length = n) (hf : ∀ i, i < n → f i = .int .i64 (l.getD i 0)) : ViewT H (lsV l) (.sl id [] 1 0 n) :=
  ViewT.sl h rfl trivial (by omega) hl fun i hi => .rel (by rw [Nat.zero_add, hf i (by omega)]; exact NoId.self NI_)
theorem first_ok {n : Nat} {l : List Ed} (ok : NetOk n l) : Ok Try.prog 25 [] [] (.pair (.int .i64 (n : Nat)) (.pair (edV l) .nul)) (fun r h' => r = .tup (.pair (lsV (optL (fstO n l))) (.pair (.bool (fstO n l).isSome) .nul)) ∧ h' = []) := by
  refine Ok.still (first_walk ok) ?_
  rintro r h' ⟨rfl, rfl⟩
  cases fstO n l with
  | some G => exact ⟨_, .tup (.pair (viewT_li (by rfl) rfl fun i _ => rfl) (.pair (.rel (NoId.self (a := .bool true) NI_)) (.rel (NoId.self (a := .nul) NI_)))), rfl, rfl⟩
  | none => exact ⟨_, .tup (.pair .nil (.pair (.rel (NoId.self (a := .bool false) NI_)) (.rel (NoId.self (a := .nul) NI_)))), rfl, rfl⟩
end Go.Proofs.Ytkpidpmlehkjbaa
