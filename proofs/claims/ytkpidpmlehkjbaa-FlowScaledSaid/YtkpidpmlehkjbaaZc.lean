/- Flow: the reference's Cheaper. -/
import Derived.Test.YtkpidpmlehkjbaaZb
set_option linter.unusedSimpArgs false
set_option linter.unusedVariables false
namespace Go.Fl
theorem bk_snoc (N : Net) (s : Bf) : ∀ k v, bk N s (k + 1) v = bk N s k v ++ [(s.par (it N s k v)).toNat]
  | 0, v => rfl
  | k + 1, v => by
    rw [bk, bk_snoc N s k, bk, it]; rfl
theorem bk_split (N : Net) (s : Bf) : ∀ k j v, bk N s (k + j) v = bk N s k v ++ bk N s j (it N s k v)
  | 0, j, v => by rw [Nat.zero_add]; rfl
  | k + 1, j, v => by
    rw [show k + 1 + j = (k + j) + 1 by omega, bk, bk_split N s k j, bk, it]; rfl
theorem room_one {l : List Ed} {F : List Int} {P : List Nat} (h : ∀ x ∈ P, 0 < aR l F x) : room l F 1 P = 1 := by
  obtain ⟨r1, _, r3⟩ := room_le (l := l) (F := F) (P := P) (m := 1)
  have := r3 1 (by omega) fun x hx => by have := h x hx; omega
  omega
theorem rl_go {n : Nat} {l : List Ed} {F : List Int} {x : Nat} {s : Bf} {f t c : Int} (hR : 0 < aR l F x) (hf : aF l x = f) (ht : aT l x = t) (hc : aC l x = c) (hlt : s.lev f.toNat + c < s.lev t.toNat) (h0 : 0 ≤ t) :
    rl (netOf n l F) x s = ⟨fun v => if v = t.toNat then s.lev f.toNat + c else s.lev v, fun v => if v = t.toNat then (x : Int) else s.par v, t⟩ := by
  have h1 : (netOf n l F).op x = true ∧ s.lev ((netOf n l F).fr x) + (netOf n l F).co x < s.lev ((netOf n l F).to x) := ⟨decide_eq_true hR, by
    show s.lev (aF l x).toNat + aC l x < s.lev (aT l x).toNat
    rw [hf, ht, hc]; exact hlt⟩
  rw [rl, if_pos h1]
  show (⟨fun v => if v = (aT l x).toNat then s.lev (aF l x).toNat + aC l x else s.lev v, fun v => if v = (aT l x).toNat then (x : Int) else s.par v, (((aT l x).toNat : Nat) : Int)⟩ : Bf) = _
  rw [hf, ht, hc, Int.toNat_of_nonneg h0]
theorem rl_no {n : Nat} {l : List Ed} {F : List Int} {x : Nat} {s : Bf} {f t c : Int} (hf : aF l x = f) (ht : aT l x = t) (hc : aC l x = c) (h : ¬ (0 < aR l F x ∧ s.lev f.toNat + c < s.lev t.toNat)) : rl (netOf n l F) x s = s := if_neg fun h1 => h ⟨of_decide_eq_true h1.1, by
    have h2 : s.lev (aF l x).toNat + aC l x < s.lev (aT l x).toNat := h1.2
    rw [hf, ht, hc] at h2
    exact h2⟩
theorem arc_e (l : List Ed) (F : List Int) (i : Nat) : aF l (2 * i) = (l.getD i edZ).a ∧ aT l (2 * i) = (l.getD i edZ).b ∧ aC l (2 * i) = (l.getD i edZ).c ∧ aR l F (2 * i) = (l.getD i edZ).hi - F.getD i 0 := by
  rw [aF, aT, aC, aR, if_pos (by omega), if_pos (by omega), if_pos (by omega), if_pos (by omega), show 2 * i / 2 = i by omega]
  exact ⟨rfl, rfl, rfl, rfl⟩
theorem arc_o (l : List Ed) (F : List Int) (i : Nat) : aF l (2 * i + 1) = (l.getD i edZ).b ∧ aT l (2 * i + 1) = (l.getD i edZ).a ∧ aC l (2 * i + 1) = -(l.getD i edZ).c ∧ aR l F (2 * i + 1) = F.getD i 0 - (l.getD i edZ).lo := by
  rw [aF, aT, aC, aR, if_neg (by omega), if_neg (by omega), if_neg (by omega), if_neg (by omega), show (2 * i + 1) / 2 = i by omega]
  exact ⟨rfl, rfl, rfl, rfl⟩
end Go.Fl
namespace Go.Proofs.Ytkpidpmlehkjbaa
open Go.V Go.RowKit Go.L Go.Lx Go.Fl
set_option maxRecDepth 10000
set_option maxHeartbeats 4000000
theorem before_ok {l : List Ed} (x : Int) (h0 : 0 ≤ x) (hx : x.toNat < 2 * l.length) (hl : l.length ≤ 257) : Ok Try.prog 52 [] [] (.pair (edV l) (.pair (.int .i64 x) .nul)) (fun r h' => r = .int .i64 (aF l x.toNat) ∧ h' = []) := by
  have e : (x / 2).toNat = x.toNat / 2 := by omega
  by_cases h : x % 2 = 0
  · rw [aF, if_pos (by omega), ← e]
    refine Ok.of_vcC tt_ok Try.func52 rfl rfl (by show 2 ≤ _; decide) 0 (hlt_ok (by rfl)) fun c0 => ?_
    repeat' (first | (refine SS_ ?_) | (refine VC.litT (by rfl) LTR_ ?_) | fail)
    (refine retC_mk ([(4, .int .i64 (l.getD (x / 2).toNat edZ).a)]) ([]) 0 (Sim.less [] (by rfl) R_ R_) (retQ_ok (by rfl) ([]) (fun i av h => h) ⟨?_, ?_⟩)) <;> rfl
  · rw [aF, if_neg (by omega), ← e]
    refine Ok.of_vcC tt_ok Try.func52 rfl rfl (by show 2 ≤ _; decide) 0 (hlt_ok (by rfl)) fun c0 => ?_
    repeat' (first | (refine SS_ ?_) | (refine VC.litF (by rfl) LFA_ ?_) | fail)
    (refine retC_mk ([(4, .int .i64 (l.getD (x / 2).toNat edZ).b)]) ([]) 0 (Sim.less [] (by rfl) R_ R_) (retQ_ok (by rfl) ([]) (fun i av h => h) ⟨?_, ?_⟩)) <;> rfl
abbrev gO (n : Nat) (g : Nat → Int) : AV := .arr n 1 (fun i => .int .i64 (g i))
abbrev chH (n : Nat) (s : Bf) : Asc := [(0, gO n s.lev), (1, gO n s.par)]
abbrev chS1 (n : Nat) (l : List Ed) (F : List Int) (k : Nat) (s : Bf) : St := ⟨[(12, .int .i64 (k : Nat)), (11, .int .i64 s.last), (9, .sl 1 [] 1 0 n), (8, .sl 0 [] 1 0 n), (2, liV F), (1, edV l), (0, .int .i64 (n : Nat))], chH n s, [], 2⟩
abbrev chS2 (n : Nat) (l : List Ed) (F : List Int) (k i : Nat) (s : Bf) : St := ⟨[(13, .int .i64 (i : Nat)), (12, .int .i64 (k : Nat)), (11, .int .i64 s.last), (9, .sl 1 [] 1 0 n), (8, .sl 0 [] 1 0 n), (2, liV F), (1, edV l), (0, .int .i64 (n : Nat))], chH n s, [], 2⟩
abbrev chS3 (n : Nat) (l : List Ed) (F : List Int) (k i : Nat) (s : Bf) : St := ⟨[(15, .int .i64 (l.getD ((i : Nat) : Int).toNat edZ).b), (14, .int .i64 (l.getD ((i : Nat) : Int).toNat edZ).a), (13, .int .i64 (i : Nat)), (12, .int .i64 (k : Nat)), (11, .int .i64 s.last), (9, .sl 1 [] 1 0 n), (8, .sl 0 [] 1 0 n), (2, liV F), (1, edV l), (0, .int .i64 (n : Nat))], chH n s, [], 2⟩
def chV (n : Nat) (l : List Ed) (F : List Int) : AV := if (lvs n l F).last < 0 then .tup (.pair (.val (.slice none 0 0)) (.pair (.bool false) .nul)) else .tup (.pair (.sl 2 [] 1 0 (chp 1 n l F).length) (.pair (.bool true) .nul))
def chR (n : Nat) (l : List Ed) (F : List Int) : Asc := if (lvs n l F).last < 0 then [] else [(2, liO (chp 1 n l F))]
theorem cheaper_walk {n : Nat} {l : List Ed} {F : List Int} (ok : NetOk n l) (hF : inB l F) : Ok Try.prog 41 [] [] (.pair (.int .i64 (n : Nat)) (.pair (edV l) (.pair (liV F) .nul))) (fun r h' => r = chV n l F ∧ h' = chR n l F) := by
  have hn := ok.nodes
  have hN := netOk F hn
  have hn64 := ok.n64
  have hl256 := ok.l256
  have hlen := (inB_iff.1 hF).1
  refine Ok.of_vcC tt_ok Try.func41 rfl rfl (by show 3 ≤ _; decide) 0 (hlt_ok (by rfl)) fun c0 => ?_
  repeat' (first | (refine SS_ ?_) | fail)
  refine VC.loop (fun k : Nat => ⟨[(10, .int .i64 (k : Nat)), (9, .sl 1 [] 1 0 n), (8, .sl 0 [] 1 0 n), (2, liV F), (1, edV l), (0, .int .i64 (n : Nat))], [(0, gO n (fun _ => 0)), (1, gO n (fun i => if i < k then -1 else 0))], [], 2⟩) (fun k => k ≤ n) (fun k => n - k) 0 (by omega) (by
    exact (Sim.less [] (by rfl) R_ R_)
    all_goals skip) fun k hk => ?_
  by_cases hkn : k < n
  · repeat' (first | (refine SS_ ?_) | (refine VC.litT (by rfl) LTR_ ?_) | fail)
    refine ⟨k + 1, by omega, by omega, ?_⟩
    (refine Sim.less [] (by rfl) ?_ ?_ <;> (repeat' (first | (exact EnvLe.nil) | (exact HeapLe.nil) | (with_reducible apply EnvLe.cons) | (with_reducible apply HeapLe.cons) | ((with_reducible refine RelA.int ?_; first | (refine Keep.mk ?_; first | with_reducible rfl | omega | decide) | skip)) | (exact rfl) | (exact ⟨rfl, rfl⟩) | ((with_reducible refine RelA.rsl ?_; intro i hi)) | ((with_reducible refine RelA.arr ?_; intro i hi)) | (with_reducible refine RelA.pair ?_ ?_) | fail)) <;> (try with_reducible refine Keep.mk ?_))
    refine rel_bif (fun h => ?_) (fun h => ?_)
    · show (if i < k + 1 then (-1 : Int) else 0) = -1
      rw [if_pos (by omega)]
    · show (if i < k + 1 then (-1 : Int) else 0) = (if i < k then -1 else 0)
      by_cases h2 : i < k
      · rw [if_pos h2, if_pos (by omega)]
      · rw [if_neg h2, if_neg (by omega)]
  · repeat' (first | (refine SS_ ?_) | (refine VC.litF (by rfl) LFA_ ?_) | fail)
    refine VC.loop (fun k : Nat => chS1 n l F k (rnds (netOf n l F) k)) (fun k => k ≤ n + 1) (fun k => n + 1 - k) 0 (by omega) (by
      (refine Sim.less [] (by rfl) ?_ ?_ <;> (repeat' (first | (exact EnvLe.nil) | (exact HeapLe.nil) | (with_reducible apply EnvLe.cons) | (with_reducible apply HeapLe.cons) | ((with_reducible refine RelA.int ?_; first | (refine Keep.mk ?_; first | with_reducible rfl | omega | decide) | skip)) | (exact rfl) | (exact ⟨rfl, rfl⟩) | ((with_reducible refine RelA.rsl ?_; intro i hi)) | ((with_reducible refine RelA.arr ?_; intro i hi)) | (with_reducible refine RelA.pair ?_ ?_) | fail)) <;> (try with_reducible refine Keep.mk ?_))
      · rfl
      · rfl
      · show (if i < k then (-1 : Int) else 0) = -1
        rw [if_pos (by omega)]) fun k hk => ?_
    by_cases hkn1 : k ≤ n
    · repeat' (first | (refine SS_ ?_) | (refine VC.litT (by rfl) LTR_ ?_) | fail)
      refine VC.loop (fun i : Nat => chS2 n l F k i (rls (netOf n l F) (bf0 (rnds (netOf n l F) k)) (2 * i))) (fun i => i ≤ l.length) (fun i => l.length - i) 0 (by omega) (by
        show ∀ a w, _ → Sim _ ⟨[(13, .int .i64 ((0 : Nat) : Int)), (12, .int .i64 (k : Nat)), (11, .int .i64 (-1)), (9, .sl 1 [] 1 0 n), (8, .sl 0 [] 1 0 n), (2, liV F), (1, edV l), (0, .int .i64 (n : Nat))], [(0, gO n (rnds (netOf n l F) k).lev), (1, gO n (rnds (netOf n l F) k).par)], [], 2⟩ a w
        exact (Sim.less [] (by rfl) R_ R_)) fun i hi => ?_
      by_cases him : i < l.length
      · have he := ok.get him
        have hf := ok.flow hF i him
        have hkk : ((i : Nat) : Int).toNat = i := Int.toNat_natCast i
        have A := arc_e l F i
        have B := arc_o l F i
        rw [← hkk] at he hf
        rw [show l.getD i edZ = (l.getD ((i : Nat) : Int).toNat edZ) by rw [hkk], show F.getD i 0 = F.getD ((i : Nat) : Int).toNat 0 by rw [hkk]] at A B
        have hbd := rls_bd (F := F) ok hkn1 (show 2 * i ≤ 2 * l.length by omega)
        have hbd2 := rls_bd (F := F) ok hkn1 (show 2 * i + 1 ≤ 2 * l.length by omega)
        have hs1 : rls (netOf n l F) (bf0 (rnds (netOf n l F) k)) (2 * i + 1) = rl (netOf n l F) (2 * i) (rls (netOf n l F) (bf0 (rnds (netOf n l F) k)) (2 * i)) := rfl
        have hrl : rls (netOf n l F) (bf0 (rnds (netOf n l F) k)) (2 * (i + 1)) = rl (netOf n l F) (2 * i + 1) (rls (netOf n l F) (bf0 (rnds (netOf n l F) k)) (2 * i + 1)) := rfl
        rw [hs1] at hrl hbd2
        generalize rls (netOf n l F) (bf0 (rnds (netOf n l F) k)) (2 * i) = s at *
        have b1 := hbd (0 + (l.getD ((i : Nat) : Int).toNat edZ).a.toNat) (by omega)
        have b2 := hbd (0 + (l.getD ((i : Nat) : Int).toNat edZ).b.toNat) (by omega)
        have b3 := hbd2 (0 + (l.getD ((i : Nat) : Int).toNat edZ).a.toNat) (by omega)
        have b4 := hbd2 (0 + (l.getD ((i : Nat) : Int).toNat edZ).b.toNat) (by omega)
        repeat' (first | (refine SS_ ?_) | (refine VC.litT (by rfl) LTR_ ?_) | fail)
        refine VC.join2 (X := Unit) (fun _ => chS3 n l F k i (rl (netOf n l F) (2 * i) s)) (fun _ => True) ?_ ?_
        · by_cases hop : 0 < (l.getD ((i : Nat) : Int).toNat edZ).hi - F.getD ((i : Nat) : Int).toNat 0
          · by_cases hlt : s.lev (0 + (l.getD ((i : Nat) : Int).toNat edZ).a.toNat) + (l.getD ((i : Nat) : Int).toNat edZ).c < s.lev (0 + (l.getD ((i : Nat) : Int).toNat edZ).b.toNat)
            · have e1 := rl_go (n := n) (F := F) (s := s) (by rw [A.2.2.2]; exact hop) A.1 A.2.1 A.2.2.1 (by rw [Nat.zero_add, Nat.zero_add] at hlt; omega) (by omega)
              repeat' (first | (refine SS_ ?_) | (refine VC.drawm (id := 17) [(0, 0), (1, 0), (2, 3), (3, 7), (4, 0), (5, 0), (6, 48), (7, 112), (8, 240), (9, 511), (10, 1023), (11, 2047), (12, 2047), (13, 8191), (14, 16383), (15, 2047), (16, 2047), (17, 100351), (18, 231423), (19, 493567), (20, 1048575), (21, 2047), (22, 2047), (23, 6293503), (24, 14682111), (25, 33554431), (26, 67108863)] [] (by rfl) (by kernel_rfl) (by rfl) ?_) | (refine VC.drawm (id := 18) [(0, 0), (1, 0), (2, 0), (3, 0), (4, 12), (5, 28), (6, 0), (7, 0), (8, 192), (9, 448), (10, 960), (11, 2044), (12, 4095)] [13] (by rfl) (by kernel_rfl) (by rfl) ?_) | (refine VC.litT (by rfl) LTR_ ?_) | (refine DD_ ?_) | (refine DSeq.lit2 (by rfl) (by rfl) (by rfl) LT2_ (by rfl) ?_) | fail)
              refine ⟨(), trivial, ?_⟩
              show ∀ a w, _ → Sim _ (chS3 n l F k i (rl (netOf n l F) (2 * i) s)) a w
              rw [e1]
              (refine Sim.less [] (by rfl) ?_ ?_ <;> (repeat' (first | (exact EnvLe.nil) | (exact HeapLe.nil) | (with_reducible apply EnvLe.cons) | (with_reducible apply HeapLe.cons) | ((with_reducible refine RelA.int ?_; first | (refine Keep.mk ?_; first | with_reducible rfl | omega | decide) | skip)) | (exact rfl) | (exact ⟨rfl, rfl⟩) | ((with_reducible refine RelA.rsl ?_; intro i hi)) | ((with_reducible refine RelA.arr ?_; intro i hi)) | (with_reducible refine RelA.pair ?_ ?_) | fail)) <;> (try with_reducible refine Keep.mk ?_))
              all_goals skip
              · refine rel_bif (fun h => ?_) (fun h => ?_)
                · rw [Nat.zero_add] at h
                  show (if (_ : Nat) = _ then (_ : Int) else _) = _
                  rw [if_pos h, Nat.zero_add]; try rfl
                · rw [Nat.zero_add] at h
                  show (if (_ : Nat) = _ then (_ : Int) else _) = _
                  rw [if_neg h]
              · refine rel_bif (fun h => ?_) (fun h => ?_)
                · rw [Nat.zero_add] at h
                  show (if (_ : Nat) = _ then (_ : Int) else _) = _
                  rw [if_pos h]; omega
                · rw [Nat.zero_add] at h
                  show (if (_ : Nat) = _ then (_ : Int) else _) = _
                  rw [if_neg h]
            · have e1 := rl_no (n := n) (F := F) (s := s) A.1 A.2.1 A.2.2.1 (fun h => hlt (by rw [Nat.zero_add, Nat.zero_add]; have := h.2; omega))
              repeat' (first | (refine SS_ ?_) | (refine VC.drawm (id := 17) [(0, 0), (1, 0), (2, 3), (3, 7), (4, 0), (5, 0), (6, 48), (7, 112), (8, 240), (9, 511), (10, 1023), (11, 2047), (12, 2047), (13, 8191), (14, 16383), (15, 2047), (16, 2047), (17, 100351), (18, 231423), (19, 493567), (20, 1048575), (21, 2047), (22, 2047), (23, 6293503), (24, 14682111), (25, 33554431), (26, 67108863)] [] (by rfl) (by kernel_rfl) (by rfl) ?_) | (refine VC.litF (by rfl) LFA_ ?_) | (refine DD_ ?_) | (refine DSeq.lit2 (by rfl) (by rfl) (by rfl) LT2_ (by rfl) ?_) | fail)
              refine ⟨(), trivial, ?_⟩
              show ∀ a w, _ → Sim _ (chS3 n l F k i (rl (netOf n l F) (2 * i) s)) a w
              rw [e1]
              exact (Sim.less [] (by rfl) R_ R_)
          · have e1 := rl_no (n := n) (F := F) (s := s) A.1 A.2.1 A.2.2.1 (fun h => hop (by have := h.1; rw [A.2.2.2] at this; exact this))
            repeat' (first | (refine SS_ ?_) | (refine VC.drawm (id := 17) [(0, 0), (1, 0), (2, 3), (3, 7), (4, 0), (5, 0), (6, 48), (7, 112), (8, 240), (9, 511), (10, 1023), (11, 2047), (12, 2047), (13, 8191), (14, 16383), (15, 2047), (16, 2047), (17, 100351), (18, 231423), (19, 493567), (20, 1048575), (21, 2047), (22, 2047), (23, 6293503), (24, 14682111), (25, 33554431), (26, 67108863)] [] (by rfl) (by kernel_rfl) (by rfl) ?_) | (refine VC.litF (by rfl) LFA_ ?_) | (refine DD_ ?_) | (refine DSeq.lit2 (by rfl) (by rfl) (by rfl) LT2_ (by rfl) ?_) | fail)
            refine ⟨(), trivial, ?_⟩
            show ∀ a w, _ → Sim _ (chS3 n l F k i (rl (netOf n l F) (2 * i) s)) a w
            rw [e1]
            exact (Sim.less [] (by rfl) R_ R_)
        · rintro _ _
          generalize hs2 : rl (netOf n l F) (2 * i) s = s2 at *
          by_cases hop : 0 < F.getD ((i : Nat) : Int).toNat 0 - (l.getD ((i : Nat) : Int).toNat edZ).lo
          · by_cases hlt : s2.lev (0 + (l.getD ((i : Nat) : Int).toNat edZ).b.toNat) - (l.getD ((i : Nat) : Int).toNat edZ).c < s2.lev (0 + (l.getD ((i : Nat) : Int).toNat edZ).a.toNat)
            · have e1 := rl_go (n := n) (F := F) (s := s2) (by rw [B.2.2.2]; exact hop) B.1 B.2.1 B.2.2.1 (by rw [Nat.zero_add, Nat.zero_add] at hlt; omega) (by omega)
              repeat' (first | (refine SS_ ?_) | (refine VC.drawm (id := 21) [(0, 0), (1, 0), (2, 3), (3, 7), (4, 0), (5, 0), (6, 48), (7, 112), (8, 240), (9, 511), (10, 1023), (11, 2047), (12, 2047), (13, 8191), (14, 16383), (15, 2047), (16, 2047), (17, 100351), (18, 231423), (19, 493567), (20, 1048575), (21, 2047), (22, 2047), (23, 6293503), (24, 14682111), (25, 33554431), (26, 67108863)] [] (by rfl) (by kernel_rfl) (by rfl) ?_) | (refine VC.drawm (id := 22) [(0, 0), (1, 0), (2, 0), (3, 0), (4, 12), (5, 28), (6, 0), (7, 0), (8, 192), (9, 448), (10, 960), (11, 2044), (12, 4095)] [13] (by rfl) (by kernel_rfl) (by rfl) ?_) | (refine VC.litT (by rfl) LTR_ ?_) | (refine DD_ ?_) | (refine DSeq.lit2 (by rfl) (by rfl) (by rfl) LT2_ (by rfl) ?_) | fail)
              refine ⟨i + 1, by omega, by omega, ?_⟩
              show ∀ a w, _ → Sim _ (chS2 n l F k (i + 1) (rls (netOf n l F) (bf0 (rnds (netOf n l F) k)) (2 * (i + 1)))) a w
              rw [hrl]
              rw [e1]
              (refine Sim.less [] (by rfl) ?_ ?_ <;> (repeat' (first | (exact EnvLe.nil) | (exact HeapLe.nil) | (with_reducible apply EnvLe.cons) | (with_reducible apply HeapLe.cons) | ((with_reducible refine RelA.int ?_; first | (refine Keep.mk ?_; first | with_reducible rfl | omega | decide) | skip)) | (exact rfl) | (exact ⟨rfl, rfl⟩) | ((with_reducible refine RelA.rsl ?_; intro i hi)) | ((with_reducible refine RelA.arr ?_; intro i hi)) | (with_reducible refine RelA.pair ?_ ?_) | fail)) <;> (try with_reducible refine Keep.mk ?_))
              all_goals skip
              · refine rel_bif (fun h => ?_) (fun h => ?_)
                · rw [Nat.zero_add] at h
                  show (if (_ : Nat) = _ then (_ : Int) else _) = _
                  rw [if_pos h, Nat.zero_add]; try rfl
                · rw [Nat.zero_add] at h
                  show (if (_ : Nat) = _ then (_ : Int) else _) = _
                  rw [if_neg h]
              · refine rel_bif (fun h => ?_) (fun h => ?_)
                · rw [Nat.zero_add] at h
                  show (if (_ : Nat) = _ then (_ : Int) else _) = _
                  rw [if_pos h]; omega
                · rw [Nat.zero_add] at h
                  show (if (_ : Nat) = _ then (_ : Int) else _) = _
                  rw [if_neg h]
            · have e1 := rl_no (n := n) (F := F) (s := s2) B.1 B.2.1 B.2.2.1 (fun h => hlt (by rw [Nat.zero_add, Nat.zero_add]; have := h.2; omega))
              repeat' (first | (refine SS_ ?_) | (refine VC.drawm (id := 21) [(0, 0), (1, 0), (2, 3), (3, 7), (4, 0), (5, 0), (6, 48), (7, 112), (8, 240), (9, 511), (10, 1023), (11, 2047), (12, 2047), (13, 8191), (14, 16383), (15, 2047), (16, 2047), (17, 100351), (18, 231423), (19, 493567), (20, 1048575), (21, 2047), (22, 2047), (23, 6293503), (24, 14682111), (25, 33554431), (26, 67108863)] [] (by rfl) (by kernel_rfl) (by rfl) ?_) | (refine VC.litF (by rfl) LFA_ ?_) | (refine DD_ ?_) | (refine DSeq.lit2 (by rfl) (by rfl) (by rfl) LT2_ (by rfl) ?_) | fail)
              refine ⟨i + 1, by omega, by omega, ?_⟩
              show ∀ a w, _ → Sim _ (chS2 n l F k (i + 1) (rls (netOf n l F) (bf0 (rnds (netOf n l F) k)) (2 * (i + 1)))) a w
              rw [hrl]
              rw [e1]
              exact (Sim.less [] (by rfl) R_ R_)
          · have e1 := rl_no (n := n) (F := F) (s := s2) B.1 B.2.1 B.2.2.1 (fun h => hop (by have := h.1; rw [B.2.2.2] at this; exact this))
            repeat' (first | (refine SS_ ?_) | (refine VC.drawm (id := 21) [(0, 0), (1, 0), (2, 3), (3, 7), (4, 0), (5, 0), (6, 48), (7, 112), (8, 240), (9, 511), (10, 1023), (11, 2047), (12, 2047), (13, 8191), (14, 16383), (15, 2047), (16, 2047), (17, 100351), (18, 231423), (19, 493567), (20, 1048575), (21, 2047), (22, 2047), (23, 6293503), (24, 14682111), (25, 33554431), (26, 67108863)] [] (by rfl) (by kernel_rfl) (by rfl) ?_) | (refine VC.litF (by rfl) LFA_ ?_) | (refine DD_ ?_) | (refine DSeq.lit2 (by rfl) (by rfl) (by rfl) LT2_ (by rfl) ?_) | fail)
            refine ⟨i + 1, by omega, by omega, ?_⟩
            show ∀ a w, _ → Sim _ (chS2 n l F k (i + 1) (rls (netOf n l F) (bf0 (rnds (netOf n l F) k)) (2 * (i + 1)))) a w
            rw [hrl]
            rw [e1]
            exact (Sim.less [] (by rfl) R_ R_)
      · obtain rfl : i = l.length := by omega
        repeat' (first | (refine SS_ ?_) | (refine VC.litF (by rfl) LFA_ ?_) | fail)
        refine ⟨k + 1, by omega, by omega, ?_⟩
        show ∀ a w, _ → Sim _ (chS1 n l F (k + 1) (rls (netOf n l F) (bf0 (rnds (netOf n l F) k)) (2 * l.length))) a w
        exact (Sim.less [] (by rfl) R_ R_)
    · obtain rfl : k = n + 1 := by omega
      rw [chV, chR, show lvs n l F = rnds (netOf n l F) (n + 1) from rfl]
      by_cases hl : (rnds (netOf n l F) (n + 1)).last < 0
      · rw [if_pos hl, if_pos hl]
        repeat' (first | (refine SS_ ?_) | (refine VC.litT (by rfl) LTR_ ?_) | (refine VC.litF (by rfl) LFA_ ?_) | fail)
        exact retC_mk [(6, .val (.slice none 0 0)), (7, .bool false)] [] 2 (Sim.less [] (by rfl) R_ R_) (retQ_ok (by rfl) [] nil_sub ⟨rfl, rfl⟩)
      · rw [if_neg hl, if_neg hl]
        obtain ⟨t, hI⟩ := inv_rnds hN n
        obtain ⟨z, v, K, z1, z2, z3, z4, z5, z6, z7, z8, z9, z10, z11, z12⟩ := neg_cycle hn hI hl
        have hcyc : chp 1 n l F = pus 1 F (bk (netOf n l F) (rnds (netOf n l F) (n + 1)) K v) := by
          have hc : cyc n l F = bk (netOf n l F) (rnds (netOf n l F) (n + 1)) K v := by
            show bk (netOf n l F) (rnds (netOf n l F) (n + 1)) (per (netOf n l F) (rnds (netOf n l F) (n + 1)) (it (netOf n l F) (rnds (netOf n l F) (n + 1)) n (rnds (netOf n l F) (n + 1)).last.toNat)) (it (netOf n l F) (rnds (netOf n l F) (n + 1)) n (rnds (netOf n l F) (n + 1)).last.toNat) = _
            rw [z1, Int.toNat_natCast, z4, per_eq z5 z6 z7 z8]
          rw [chp, hc, room_one fun x hx => (z10 x hx).2]
        rw [hcyc]
        generalize rnds (netOf n l F) (n + 1) = s at *
        have hpar : ∀ i, 0 ≤ s.par (it (netOf n l F) s i z) ∧ (s.par (it (netOf n l F) s i z)).toNat < 2 * l.length ∧ it (netOf n l F) s i z < n ∧ aF l (s.par (it (netOf n l F) s i z)).toNat = ((it (netOf n l F) s (i + 1) z : Nat) : Int) := fun i => by
          obtain ⟨y1, y2⟩ := z3 i
          obtain ⟨x1, _⟩ := hI.a _ y1 y2
          refine ⟨y2, x1, y1, ?_⟩
          rw [it_succ]
          show _ = (((aF l (s.par (it (netOf n l F) s i z)).toNat).toNat : Nat) : Int)
          exact (Int.toNat_of_nonneg (arc_in hn x1).2.1).symm
        rw [show s = s from rfl]
        repeat' (first | (refine SS_ ?_) | (refine VC.litF (by rfl) LFA_ ?_) | fail)
        refine VC.loop (fun i : Nat => ⟨[(16, .int .i64 (i : Nat)), (11, .int .i64 (it (netOf n l F) s i z : Nat)), (9, .sl 1 [] 1 0 n), (8, .sl 0 [] 1 0 n), (2, liV F), (1, edV l), (0, .int .i64 (n : Nat))], chH n s, [], 2⟩) (fun i => i ≤ n) (fun i => n - i) 0 (by omega) (by
          show ∀ a w, _ → Sim _ ⟨[(16, .int .i64 ((0 : Nat) : Int)), (11, .int .i64 (z : Nat)), (9, .sl 1 [] 1 0 n), (8, .sl 0 [] 1 0 n), (2, liV F), (1, edV l), (0, .int .i64 (n : Nat))], chH n s, [], 2⟩ a w
          rw [← z1]
          exact (Sim.less [] (by rfl) R_ R_)) fun i hi => ?_
        have hkk : ∀ u : Nat, 0 + ((u : Nat) : Int).toNat = u := fun u => by omega
        obtain ⟨p1, p2, p3, p4⟩ := hpar i
        by_cases hin : i < n
        · have c1 := before_ok (l := l) (s.par (it (netOf n l F) s i z)) p1 p2 hl256
          rw [p4] at c1
          rw [← hkk (it (netOf n l F) s i z)] at c1
          repeat' (first | (refine SS_ ?_) | (refine Seq.callp false (c1) Try.func52 GOk.nil subG.nil (by rfl) (by rfl) rfl rfl rfl rfl rfl (by rfl) rfl VW_ NI_ NI_ FR_ ?_) | (refine VC.litT (by rfl) LTR_ ?_) | fail)
          refine ⟨i + 1, by omega, by omega, ?_⟩
          exact (Sim.less [] (by rfl) R_ R_)
        · obtain rfl : i = n := by omega
          rw [z4]
          repeat' (first | (refine SS_ ?_) | (refine VC.litF (by rfl) LFA_ ?_) | fail)
          have hNv : ∀ j, it (netOf i l F) s (i + j) z = it (netOf i l F) s j v := fun j => by rw [it_add, z4]
          refine VC.loop (fun j : Nat => ⟨[(19, .int .i64 (j : Nat)), (18, .int .i64 (it (netOf i l F) s j v : Nat)), (17, .sl 2 [] 1 0 l.length), (11, .int .i64 (v : Nat)), (9, .sl 1 [] 1 0 i), (1, edV l), (0, .int .i64 (i : Nat))], [(2, .arr l.length 1 (fun q => .int .i64 ((pus 1 F (bk (netOf i l F) s j v)).getD q 0))), (1, gO i s.par)], [], 3⟩) (fun j => j ≤ K) (fun j => K - j) 0 (by omega) (by
            show ∀ a w, _ → Sim _ ⟨[(19, .int .i64 ((0 : Nat) : Int)), (18, .int .i64 (v : Nat)), (17, .sl 2 [] 1 0 l.length), (11, .int .i64 (v : Nat)), (9, .sl 1 [] 1 0 i), (1, edV l), (0, .int .i64 (i : Nat))], [(2, .arr l.length 1 (fun q => .int .i64 (F.getD q 0))), (1, gO i s.par)], [], 3⟩ a w
            rw [← hlen]
            exact (Sim.less [] (by rfl) R_ R_)) fun j hj => ?_
          obtain ⟨y1, y2, y3, y4⟩ := hpar (i + j)
          rw [show i + j + 1 = i + (j + 1) by omega, hNv (j + 1)] at y4
          rw [hNv] at y1 y2 y3 y4
          have hinb : inB l (pus 1 F (bk (netOf i l F) s j v)) := by
            have hsp := bk_split (netOf i l F) s j (K - j) v
            rw [show j + (K - j) = K by omega] at hsp
            refine inB_pus hF (by omega) (fun x hx => ?_) ?_
            · obtain ⟨q1, q2⟩ := z10 x (by rw [hsp]; exact List.mem_append_left _ hx)
              exact ⟨by omega, by omega⟩
            · rw [hsp, List.map_append] at z11
              exact (List.nodup_append.1 z11).1
          have hsn : pus 1 F (bk (netOf i l F) s (j + 1) v) = pu 1 (pus 1 F (bk (netOf i l F) s j v)) (s.par (it (netOf i l F) s j v)).toNat := by
            rw [bk_snoc, pus, List.foldl_append]; rfl
          have hGl := (inB_iff.1 hinb).1
          have hGf := ok.flow hinb ((s.par (it (netOf i l F) s j v)).toNat / 2) (by omega)
          generalize hG : pus 1 F (bk (netOf i l F) s j v) = G at *
          have z8j := z8 j
          by_cases hjK : j < K
          · have hc1 : j = 0 ∨ ((it (netOf i l F) s j v : Nat) : Int) ≠ v := by
              by_cases h0 : j = 0
              · exact .inl h0
              · have := z8j (by omega) hjK
                exact .inr (by omega)
            have c1 := before_ok (l := l) (s.par (it (netOf i l F) s j v)) y1 y2 hl256
            rw [y4] at c1
            rw [show (s.par (it (netOf i l F) s j v)).toNat / 2 = (s.par (it (netOf i l F) s j v) / 2).toNat by omega] at hGf
            rw [pu, show (s.par (it (netOf i l F) s j v)).toNat / 2 = (s.par (it (netOf i l F) s j v) / 2).toNat by omega] at hsn
            rw [← Nat.zero_add (s.par (it (netOf i l F) s j v) / 2).toNat] at hGf
            have hpx : (s.par (it (netOf i l F) s j v) / 2).toNat < l.length := by omega
            by_cases hev : s.par (it (netOf i l F) s j v) % 2 = 0
            · rw [aS, if_pos (by omega)] at hsn
              rw [← hkk (it (netOf i l F) s j v)] at c1 y1 hGf hev hpx
              repeat' (first | (refine SS_ ?_) | (refine Seq.callp false (c1) Try.func52 GOk.nil subG.nil (by rfl) (by rfl) rfl rfl rfl rfl rfl (by rfl) rfl VW_ NI_ NI_ FR_ ?_) | (refine VC.litT (by rfl) LTR_ ?_) | (refine Seq.litC (by rfl) (by rfl) (fun hb => ?_) (fun hb => ?_) <;> (fail_if_success (with_reducible have := litT_ hb)) <;> (fail_if_success (with_reducible have := litF_ hb)) <;> (try simp only [HB_] at hb) <;> (try (exfalso; first | omega | (cases hb; done)))) | fail)
              all_goals (refine ⟨j + 1, by omega, by omega, ?_⟩)
              all_goals
                rw [hsn]
                (refine Sim.less [] (by rfl) ?_ ?_ <;> (repeat' (first | (exact EnvLe.nil) | (exact HeapLe.nil) | (with_reducible apply EnvLe.cons) | (with_reducible apply HeapLe.cons) | ((with_reducible refine RelA.int ?_; first | (refine Keep.mk ?_; first | with_reducible rfl | omega | decide) | skip)) | (exact rfl) | (exact ⟨rfl, rfl⟩) | ((with_reducible refine RelA.rsl ?_; intro i hi)) | ((with_reducible refine RelA.arr ?_; intro i hi)) | (with_reducible refine RelA.pair ?_ ?_) | fail)) <;> (try with_reducible refine Keep.mk ?_))
                rw [hkk]
                refine rel_bif (fun h => ?_) (fun h => ?_)
                · rw [getD_set, if_pos ⟨by omega, by omega⟩, Nat.zero_add]; omega
                · rw [getD_set, if_neg (fun h2 => h (by omega))]
            · rw [aS, if_neg (by omega)] at hsn
              rw [← hkk (it (netOf i l F) s j v)] at c1 y1 hGf hev hpx
              repeat' (first | (refine SS_ ?_) | (refine Seq.callp false (c1) Try.func52 GOk.nil subG.nil (by rfl) (by rfl) rfl rfl rfl rfl rfl (by rfl) rfl VW_ NI_ NI_ FR_ ?_) | (refine VC.litT (by rfl) LTR_ ?_) | (refine VC.litF (by rfl) LFA_ ?_) | (refine Seq.litC (by rfl) (by rfl) (fun hb => ?_) (fun hb => ?_) <;> (fail_if_success (with_reducible have := litT_ hb)) <;> (fail_if_success (with_reducible have := litF_ hb)) <;> (try simp only [HB_] at hb) <;> (try (exfalso; first | omega | (cases hb; done)))) | fail)
              all_goals (refine ⟨j + 1, by omega, by omega, ?_⟩)
              all_goals
                rw [hsn]
                (refine Sim.less [] (by rfl) ?_ ?_ <;> (repeat' (first | (exact EnvLe.nil) | (exact HeapLe.nil) | (with_reducible apply EnvLe.cons) | (with_reducible apply HeapLe.cons) | ((with_reducible refine RelA.int ?_; first | (refine Keep.mk ?_; first | with_reducible rfl | omega | decide) | skip)) | (exact rfl) | (exact ⟨rfl, rfl⟩) | ((with_reducible refine RelA.rsl ?_; intro i hi)) | ((with_reducible refine RelA.arr ?_; intro i hi)) | (with_reducible refine RelA.pair ?_ ?_) | fail)) <;> (try with_reducible refine Keep.mk ?_))
                rw [hkk]
                refine rel_bif (fun h => ?_) (fun h => ?_)
                · rw [getD_set, if_pos ⟨by omega, by omega⟩, Nat.zero_add]; omega
                · rw [getD_set, if_neg (fun h2 => h (by omega))]
          · obtain rfl : j = K := by omega
            rw [z7]
            repeat' (first | (refine SS_ ?_) | (refine Seq.lit (by rfl) (by rfl) LT2_ ?_) | (refine VC.litF (by rfl) LFA_ ?_) | fail)
            rw [hG]
            refine retC_mk ([(6, .sl 2 [] 1 0 l.length), (7, .bool true)]) ([(2, .arr l.length 1 (fun q => .int .i64 (G.getD q 0)))]) 3 ?_ (retQ_ok (by rfl) ([(2, .arr l.length 1 (fun q => .int .i64 (G.getD q 0)))]) (fun i av h => h) ⟨?_, ?_⟩)
            · exact (Sim.less [] (by rfl) R_ R_)
            · rw [hGl]
            · show _ = [(2, AV.arr G.length 1 _)]
              rw [hGl]
end Go.Proofs.Ytkpidpmlehkjbaa
