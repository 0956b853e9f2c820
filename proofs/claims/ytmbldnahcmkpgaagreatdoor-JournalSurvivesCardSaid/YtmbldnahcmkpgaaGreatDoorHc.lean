/- hash.compress returns Sha.compress. -/
import Derived.Test.YtmbldnahcmkpgaaGreatDoorHb
import Derived.Deep.DeepCutAuto
set_option linter.unusedSimpArgs false
set_option linter.unusedVariables false
namespace Go.Proofs.YtmbldnahcmkpgaaGreatDoor
open Go.RowKit Go.U Go.L
def KTab (w : World) (g : Nat) : Prop:=g < w.heap.size∧∀ j u,(u32s Sha.kTab)[j]? = some u→w.cell? ⟨g,j,none⟩ = some u
def stv (s : Sha.St) : List Value:=u32s s.words
theorem aggW8 : AggT Tryz.prog 143 8:=⟨.array 8 134,by kernel_rfl,rfl,by kernel_rfl⟩
theorem u32s_at (l : List UInt32) (i : Nat) (h : i < l.length) : (u32s l)[i]? = some (.int .u32 (l.getD i 0).toNat):=by
  simp [u32s,h]
theorem idx64 (k : Nat) (hk : k < 64) (W : World) : (Instr.index 158 (.agg (u32s Sha.kTab).toArray) (.int .i64 k)).run Tryz.prog W = .ok (.int .u32 (Sha.kTab.getD k 0).toNat) W:=by
  have hl : (u32s Sha.kTab).length = 64:=rfl
  have h:=u32s_at Sha.kTab k (by show k < 64;omega)
  generalize u32s Sha.kTab = K at *
  generalize Sha.kTab.getD k 0 = x at *
  simp [Instr.index,go_sem]
  rw [if_pos hk,h];rfl
theorem mix6' (x : UInt32) (w : World) : Calls Tryz.prog 110 #[.int .u32 x.toNat,.int .i64 6,.int .i64 11,.int .i64 25] w fun e w'=>e = .returned (.int .u32 (Sha.bs1 x).toNat)∧w' = w :=
  (mix6 x w).mono fun _ _ ⟨h1,h2⟩=>⟨h1,h2.symm⟩
theorem mix2' (x : UInt32) (w : World) : Calls Tryz.prog 110 #[.int .u32 x.toNat,.int .i64 2,.int .i64 13,.int .i64 22] w fun e w'=>e = .returned (.int .u32 (Sha.bs0 x).toNat)∧w' = w :=
  (mix2 x w).mono fun _ _ ⟨h1,h2⟩=>⟨h1,h2.symm⟩
theorem infoW8 : (Tryz.prog.info? 143).map (·.size) = some 8:=by kernel_rfl
theorem infoW4 : (Tryz.prog.info? 164).map (·.size) = some 4:=by kernel_rfl
theorem one4 (a b c d : Int) : ∀ u ∈ [Value.int .u32 a,.int .u32 b,.int .u32 c,.int .u32 d],u.oneCell' = true:=by
  intro u hu;simp at hu;rcases hu with rfl | rfl | rfl | rfl <;> rfl
theorem not32 (e : UInt32) : bits BinOp.xor IntKind.u32 (if IntKind.u32.signed = true then -1 else IntKind.u32.max) e.toNat = ((~~~e).toNat : Int):=by
  show IntKind.u32.wrap (((BitVec.ofInt 32 4294967295) ^^^ (BitVec.ofInt 32 (e.toNat : Int))).toNat : Int) = _
  have e3 : BitVec.ofInt 32 4294967295 = BitVec.allOnes 32:=by decide
  rw [e3,ofInt_nat,ofNat_u32,BitVec.allOnes_xor,wrap_u32];rfl
theorem fold_t1 (a b1 c d e f g1 h kk wk : UInt32) : Value.int .u32
            (((h.toNat + (Sha.bs1 e).toNat +
                      bits BinOp.xor IntKind.u32 (bits BinOp.and IntKind.u32 e.toNat f.toNat)
                        (bits BinOp.and IntKind.u32
                          (bits BinOp.xor IntKind.u32 (if IntKind.u32.signed = true then -1 else IntKind.u32.max)
                            e.toNat)
                          g1.toNat) +
                    kk.toNat) %
                  4294967296 +
                wk.toNat) %
              4294967296) = .int .u32 ((Sha.t1 ⟨a,b1,c,d,e,f,g1,h⟩ kk wk).toNat : Int):=by
  rw [not32,and32,and32,xor32]
  simp only [Sha.t1,Sha.ch]
  congr 1
  rw [← add32,← add32,← add32,← add32]
  omega
theorem fold_t2 (a b1 c d e f g1 h : UInt32) : Value.int .u32
            (((Sha.bs0 a).toNat +
                      bits BinOp.xor IntKind.u32 (bits BinOp.xor IntKind.u32 (bits BinOp.and IntKind.u32 a.toNat b1.toNat) (bits BinOp.and IntKind.u32 a.toNat c.toNat)) (bits BinOp.and IntKind.u32 b1.toNat c.toNat)) %
                  4294967296) = .int .u32 ((Sha.t2 ⟨a,b1,c,d,e,f,g1,h⟩).toNat : Int):=by
  rw [and32,and32,and32,xor32,xor32,add32]
  rfl
def mixS (s v : Sha.St) (k : Nat) : List UInt32:=[if 0 < k then s.a + v.a else s.a,if 1 < k then s.b + v.b else s.b,if 2 < k then s.c + v.c else s.c,if 3 < k then s.d + v.d else s.d,
  if 0 < k then s.e + v.e else s.e,if 1 < k then s.f + v.f else s.f,if 2 < k then s.g + v.g else s.g,if 3 < k then s.h + v.h else s.h]
def v4 (s : Sha.St) : List Value:=u32s [s.a,s.b,s.c,s.d]
def e4 (s : Sha.St) : List Value:=u32s [s.e,s.f,s.g,s.h]
set_option maxRecDepth 100000 in
set_option maxHeartbeats 4000000 in
theorem compress_any (s : Sha.St) (b : List UInt8) (g off cap : Nat) (w : World) (hb : b.length = 64) (hcap : 64 ≤ cap∧cap ≤ 1099511627776) (hg : g < w.heap.size)
    (hc : ∀ j,j < 64→w.cell? ⟨g,off + j,none⟩ = some (.int .u8 ((b.getD j 0).toNat : Nat))) (hk : KTab w 2) :
    Calls Tryz.prog 101 #[.agg (stv s).toArray,.slice (some ⟨g,off,none⟩) 64 cap] w fun e w'=>e = .returned (.agg (stv (Sha.compress s b)).toArray)∧Below w.heap.size w w':=by
  obtain ⟨ha,hb',hc',hd,he,hf,hg',hh⟩:=s
  have HC:=Lib.hid hc
  clear hc
  simp only [stv,Sha.St.words,u32s,List.map_cons,List.map_nil]
  go_enter Tryz.func101,Tryz.ntmps101
  go_wp2_with fail
  obtain ⟨w1,hw1⟩ : ∃ w1,w1 = (w.alloc (.cells (stv ⟨ha,hb',hc',hd,he,hf,hg',hh⟩).toArray 143)).alloc (.cells (u32s (List.replicate 8 0)).toArray 143):=⟨_,rfl⟩
  have hB0 : Blk w1 w.heap.size (stv ⟨ha,hb',hc',hd,he,hf,hg',hh⟩) 143:=by rw [hw1];exact (Blk.new _ _ _).alloc _
  have hB1 : Blk w1 (w.heap.size + 1) (u32s (List.replicate 8 0)) 143:=by
    have:=Blk.new (w.alloc (.cells (stv ⟨ha,hb',hc',hd,he,hf,hg',hh⟩).toArray 143)) (u32s (List.replicate 8 0)) 143
    simp only [World.size_alloc] at this
    rw [hw1];exact this
  have hb1 : Below w.heap.size w w1:=by rw [hw1];exact ((Below.refl _ _).alloc (Nat.le_refl _) _).alloc (by simp) _
  have hs1 : w1.heap.size = w.heap.size + 2:=by rw [hw1];simp
  refine (schedule_any b g off cap _ hb hcap (by simp;omega) ?hs).mono ?_
  case hs =>
    intro j hj
    have:=(hb1.cell (p:=⟨g,off + j,none⟩) hg).trans (HC.out j hj)
    rw [hw1] at this
    exact this
  rintro e w2 ⟨rfl,hb2'⟩
  have hb2 : Below w1.heap.size w1 w2:=by rw [hw1];exact hb2'
  clear hb2'
  clear hw1
  have hB0:=hB0.below hb2 (by omega)
  have hB1:=hB1.below hb2 (by omega)
  have hb2w:=hb1.trans (hb2.mono hb1.size)
  have hl64 : (u32s (Sha.sched b 64)).length = 64:=by simp [u32s,Sha.sched_length]
  have HL64:=Lib.hid hl64
  clear hl64
  go_wp2_with (refine stAll infoW64 (Blk.new w2 _ _) _ HL64.out (one_u32s _) rfl rfl rfl _ _ rfl rfl rfl ?_)
  obtain ⟨w3,hw3⟩ : ∃ w3,w3 = (w2.alloc (.cells (arr64 []).toArray 158)).setRow w2.heap.size (u32s (Sha.sched b 64)).toArray:=⟨_,rfl⟩
  have hB2 : Blk w3 w2.heap.size (u32s (Sha.sched b 64)) 158:=by rw [hw3];exact (Blk.new w2 (arr64 []) _).row _ (by rw [arr64_length _ (by simp)];simp [u32s,Sha.sched_length])
  have hb3 : Below w2.heap.size w2 w3:=by rw [hw3];exact below_row ((Below.refl _ _).alloc (Nat.le_refl _) _) (Nat.le_refl _) _
  have hs3 : w3.heap.size = w2.heap.size + 1:=by rw [hw3];simp [World.setRow]
  have hB0:=hB0.below hb3 (by have:=hb2.size;omega)
  have hB1:=hB1.below hb3 (by have:=hb2.size;omega)
  have hb3w:=hb2w.trans (hb3.mono (by have:=hb2.size;omega))
  change Code.wp _ _ _ _ ((w2.alloc (.cells (arr64 []).toArray 158)).setRow w2.heap.size (u32s (Sha.sched b 64)).toArray)
  rw [← hw3]
  clear hw3
  have ar0 : ∀ W : World,(Instr.arrayAt 164 (.slice (some ⟨w.heap.size,0,none⟩) 4 8)).run Tryz.prog W = .ok (.pointer (some ⟨w.heap.size,0,none⟩)) W:=fun W=>by kernel_rfl
  have ar4 : ∀ W : World,(Instr.arrayAt 164 (.slice (some ⟨w.heap.size,4,none⟩) 4 4)).run Tryz.prog W = .ok (.pointer (some ⟨w.heap.size,4,none⟩)) W:=fun W=>by kernel_rfl
  have c0 : w3.cell? ⟨w.heap.size,0,none⟩ = some (.int .u32 ha.toNat):=hB0.cell rfl
  have c1 : w3.cell? ⟨w.heap.size,1,none⟩ = some (.int .u32 hb'.toNat):=hB0.cell rfl
  have c2 : w3.cell? ⟨w.heap.size,2,none⟩ = some (.int .u32 hc'.toNat):=hB0.cell rfl
  have c3 : w3.cell? ⟨w.heap.size,3,none⟩ = some (.int .u32 hd.toNat):=hB0.cell rfl
  have c4 : w3.cell? ⟨w.heap.size,4,none⟩ = some (.int .u32 he.toNat):=hB0.cell rfl
  have c5 : w3.cell? ⟨w.heap.size,5,none⟩ = some (.int .u32 hf.toNat):=hB0.cell rfl
  have c6 : w3.cell? ⟨w.heap.size,6,none⟩ = some (.int .u32 hg'.toNat):=hB0.cell rfl
  have c7 : w3.cell? ⟨w.heap.size,7,none⟩ = some (.int .u32 hh.toNat):=hB0.cell rfl
  have hs2:=hb2.size
  have hlt : w.heap.size < w3.heap.size:=by omega
  have hlt1 : w.heap.size + 1 < w3.heap.size:=by omega
  have hlt2 : w2.heap.size < w3.heap.size:=by omega
  have HS3:=Lib.hid hs3
  have HS1:=Lib.hid hs1
  clear hs3 hs1
  go_cut [6,7] (fun v6 v7 wx=>∃ p6 p7 : Nat,v6 = .pointer (some ⟨p6,0,none⟩)∧v7 = .pointer (some ⟨p7,0,none⟩)∧p6 ≠ p7∧w3.heap.size ≤ p6∧w3.heap.size ≤ p7 ∧
      Blk wx p6 (u32s [ha,hb',hc',hd]) 164∧Blk wx p7 (u32s [he,hf,hg',hh]) 164∧Below w3.heap.size w3 wx)
  case first =>
    go_region
    all_goals
      go_wp2_with fail
      go_meet
    · refine ⟨w3.heap.size,w3.heap.size + 1,rfl,rfl,by omega,by omega,by omega,?_,?_,(((Below.refl _ _).alloc (Nat.le_refl _) _).alloc (by simp) _).drew⟩
      · exact (Blk.new w3 (u32s [ha,hb',hc',hd]) _).alloc _
      · have:=Blk.new (w3.alloc (.cells (u32s [ha,hb',hc',hd]).toArray 164)) (u32s [he,hf,hg',hh]) 164
        simp only [World.size_alloc] at this
        exact this
    · refine ⟨w3.heap.size + 1,w3.heap.size,rfl,rfl,by omega,by omega,by omega,?_,?_,(((Below.refl _ _).alloc (Nat.le_refl _) _).alloc (by simp) _).drew⟩
      · have:=Blk.new (w3.alloc (.cells (u32s [he,hf,hg',hh]).toArray 164)) (u32s [ha,hb',hc',hd]) 164
        simp only [World.size_alloc] at this
        exact this
      · exact (Blk.new w3 (u32s [he,hf,hg',hh]) _).alloc _
  case rest =>
    obtain ⟨p6,p7,rfl,rfl,h67,hp6,hp7,hP6,hP7,hb4⟩:=hcut
    clear c0 c1 c2 c3 c4 c5 c6 c7 ar0 ar4
    have hg1 : 2 < w.heap.size:=hk.1
    have HK : Hid (∀ j u,(u32s Sha.kTab)[j]? = some u→wc.cell? ⟨2,j,none⟩ = some u):=fun j u hu =>
      ((hb4.cell (p:=⟨2,j,none⟩) (Nat.lt_trans hg1 hlt)).trans (hb3w.cell (p:=⟨2,j,none⟩) hg1)).trans (hk.2 j u hu)
    go_wp2_with (refine ldAt aggW64 (u32s Sha.kTab) rfl (fun j u hu=>by rw [Nat.zero_add];exact HK.out j u hu) rfl _ rfl rfl ?_)
    have hidx : ∀ (k : Nat),k < 64→∀ W,(Instr.index 158 (.agg (u32s Sha.kTab).toArray) (.int .i64 k)).run Tryz.prog W = .ok (.int .u32 (Sha.kTab.getD k 0).toNat) W:=idx64
    generalize (u32s Sha.kTab).toArray = KA at *
    have HIDX:=Lib.hid hidx
    clear hidx
    go_loopw [22] (fun i wr=>∃ k : Nat,k ≤ 64∧i = .int .i64 k∧Blk wr p6 (v4 (Sha.rounds (Sha.sched b 64) ⟨ha,hb',hc',hd,he,hf,hg',hh⟩ k)) 164 ∧
      Blk wr p7 (e4 (Sha.rounds (Sha.sched b 64) ⟨ha,hb',hc',hd,he,hf,hg',hh⟩ k)) 164∧Below w3.heap.size w3 wr) (fun i _=>(64 - intOf i).toNat)
    case atStart=>exact ⟨0,by omega,rfl,hP6,hP7,hb4⟩
    case round =>
      obtain ⟨k,hk64,rfl,hQ6,hQ7,hb5⟩:=hrel
      have hb5s:=hb5.size
      by_cases h64 : k < 64
      · have d64 : decide ((k : Int) < 64) = true:=by simp;omega
        obtain ⟨S,hS⟩ : ∃ S,S = Sha.rounds (Sha.sched b 64) ⟨ha,hb',hc',hd,he,hf,hg',hh⟩ k:=⟨_,rfl⟩
        rw [← hS] at hQ6 hQ7
        have HS:=Lib.hid hS
        clear hS
        have hidx:=HIDX.out k h64
        have hw : wr.cell? ⟨w2.heap.size,k,none⟩ = some (.int .u32 ((Sha.sched b 64).getD k 0).toNat) :=
          (hB2.below hb5 hlt2).cell (u32s_at _ k (by rw [Sha.sched_length];omega))
        have HR : Hid (Sha.rounds (Sha.sched b 64) ⟨ha,hb',hc',hd,he,hf,hg',hh⟩ (k + 1) = Sha.round S (Sha.kTab.getD k 0) ((Sha.sched b 64).getD k 0)):=by
          rw [HS.out];exact rfl
        generalize (Sha.sched b 64).getD k 0 = wk at *
        generalize Sha.kTab.getD k 0 = kk at *
        obtain ⟨a,b1,c,d,e,f,g1,h⟩:=S
        have HR : Hid (Sha.rounds (Sha.sched b 64) ⟨ha,hb',hc',hd,he,hf,hg',hh⟩ (k + 1) = ⟨Sha.t1 ⟨a,b1,c,d,e,f,g1,h⟩ kk wk + Sha.t2 ⟨a,b1,c,d,e,f,g1,h⟩,a,b1,c,d + Sha.t1 ⟨a,b1,c,d,e,f,g1,h⟩ kk wk,e,f,g1⟩):=HR
        have v0 : wr.cell? ⟨p6,0,none⟩ = some (.int .u32 a.toNat):=hQ6.cell rfl
        have v1 : wr.cell? ⟨p6,1,none⟩ = some (.int .u32 b1.toNat):=hQ6.cell rfl
        have v2 : wr.cell? ⟨p6,2,none⟩ = some (.int .u32 c.toNat):=hQ6.cell rfl
        have v3 : wr.cell? ⟨p6,3,none⟩ = some (.int .u32 d.toNat):=hQ6.cell rfl
        have e0 : wr.cell? ⟨p7,0,none⟩ = some (.int .u32 e.toNat):=hQ7.cell rfl
        have e1 : wr.cell? ⟨p7,1,none⟩ = some (.int .u32 f.toNat):=hQ7.cell rfl
        have e2 : wr.cell? ⟨p7,2,none⟩ = some (.int .u32 g1.toNat):=hQ7.cell rfl
        have e3 : wr.cell? ⟨p7,3,none⟩ = some (.int .u32 h.toNat):=hQ7.cell rfl
        go_wp2
        go_cut [10] (fun v wx=>v = .int .u32 (Sha.t1 ⟨a,b1,c,d,e,f,g1,h⟩ kk wk).toNat∧Blk wx p6 (v4 ⟨a,b1,c,d,e,f,g1,h⟩) 164∧Blk wx p7 (e4 ⟨a,b1,c,d,e,f,g1,h⟩) 164∧Below w3.heap.size w3 wx)
        case first =>
          refine wp_region_quiet_lit (by kernel_rfl) (by kernel_rfl) ?_
          repeat (go_big_quiet_step ((go_at_call 110;exact Calls.quiet_of_same (mix6' _ _))))
          apply wpQuiet_nil
          intro _ hw'
          obtain ⟨n1,hw''⟩:=hw'
          subst hw''
          go_step
          go_step
          go_meet
          exact ⟨by rw [fold_t1],hQ6.drewN _,hQ7.drewN _,below_drewN hb5 _⟩
        case rest =>
          obtain ⟨rfl,hX6,hX7,hbx⟩:=hcut
          clear hQ6 hQ7 v0 v1 v2 v3 e0 e1 e2 e3 hidx hw hb5
          obtain ⟨wx,rfl⟩ : ∃ wx : World,wx = wc:=⟨_,rfl⟩
          have v0 : wx.cell? ⟨p6,0,none⟩ = some (.int .u32 a.toNat):=hX6.cell rfl
          have v1 : wx.cell? ⟨p6,1,none⟩ = some (.int .u32 b1.toNat):=hX6.cell rfl
          have v2 : wx.cell? ⟨p6,2,none⟩ = some (.int .u32 c.toNat):=hX6.cell rfl
          have v3 : wx.cell? ⟨p6,3,none⟩ = some (.int .u32 d.toNat):=hX6.cell rfl
          have e0 : wx.cell? ⟨p7,0,none⟩ = some (.int .u32 e.toNat):=hX7.cell rfl
          have e1 : wx.cell? ⟨p7,1,none⟩ = some (.int .u32 f.toNat):=hX7.cell rfl
          have e2 : wx.cell? ⟨p7,2,none⟩ = some (.int .u32 g1.toNat):=hX7.cell rfl
          have e3 : wx.cell? ⟨p7,3,none⟩ = some (.int .u32 h.toNat):=hX7.cell rfl
          generalize Sha.t1 ⟨a,b1,c,d,e,f,g1,h⟩ kk wk = T1 at *
          go_upto_region 7 with fail
          go_cut [11] (fun v wz=>v = .int .u32 (Sha.t2 ⟨a,b1,c,d,e,f,g1,h⟩).toNat∧∃ n,wz = wx.drewN n)
          case first =>
            refine wp_region_quiet_lit (by kernel_rfl) (by kernel_rfl) ?_
            repeat (go_big_quiet_step ((go_at_call 110;exact Calls.quiet_of_same (mix2' _ _))))
            apply wpQuiet_nil
            intro _ hw'
            obtain ⟨n2,hw''⟩:=hw'
            subst hw''
            go_step
            go_step
            go_meet
            exact ⟨by rw [fold_t2],n2,rfl⟩
          case rest =>
            obtain ⟨rfl,n2,rfl⟩:=hcut
            generalize Sha.t2 ⟨a,b1,c,d,e,f,g1,h⟩ = T2 at *
            go_wp2_with (first
              | ((with_reducible refine g_store (.tmp 7) ?_);refine stW infoW4 (hX7.drewN _) _ rfl (one4 _ _ _ _) rfl rfl rfl _ _ rfl rfl rfl ?_;intro wa hA7 hWa;have hA6:=hWa.blk (hX6.drewN _) h67;clear v0 v1 v2 v3 e0 e1 e2 e3;have v0 : wa.cell? ⟨p6,0,none⟩ = some (.int .u32 a.toNat):=hA6.cell rfl;have v1 : wa.cell? ⟨p6,1,none⟩ = some (.int .u32 b1.toNat):=hA6.cell rfl;have v2 : wa.cell? ⟨p6,2,none⟩ = some (.int .u32 c.toNat):=hA6.cell rfl)
              | ((with_reducible refine g_store (.tmp 6) ?_);refine stW infoW4 hA6 _ rfl (one4 _ _ _ _) rfl rfl rfl _ _ rfl rfl rfl ?_;intro wb hB6 hWb))
            refine ⟨⟨k + 1,by omega,by go_num,?_,?_,hWb.below (hWa.below (below_drewN hbx _) hp7) hp6⟩,by simp [intOf];omega⟩
            · rw [add32] at hB6
              rw [HR.out];exact hB6
            · have:=hWb.blk hA7 h67.symm
              rw [add32] at this
              rw [HR.out];exact this
      · obtain rfl : k = 64:=by omega
        have d64 : decide (((64 : Nat) : Int) < 64) = false:=by simp
        obtain ⟨V,hV⟩ : ∃ V,V = Sha.rounds (Sha.sched b 64) ⟨ha,hb',hc',hd,he,hf,hg',hh⟩ 64:=⟨_,rfl⟩
        rw [← hV] at hQ6 hQ7
        have HV:=Lib.hid hV
        clear hV hP6 hP7 hb4
        have hR0:=hB0.below hb5 hlt
        have hR1:=hB1.below hb5 hlt1
        have hw0 : wr.heap.size = wr.heap.size:=rfl
        obtain ⟨wo,rfl⟩ : ∃ wo : World,wo = wr:=⟨_,rfl⟩
        clear hw0
        go_wp2
        go_loopw [94] (fun i wr=>∃ k : Nat,k ≤ 4∧i = .int .i64 k∧Blk wr w.heap.size (u32s (mixS ⟨ha,hb',hc',hd,he,hf,hg',hh⟩ V k)) 143∧Blk wr (w.heap.size + 1) (u32s (List.replicate 8 0)) 143 ∧
          Blk wr p6 (v4 V) 164∧Blk wr p7 (e4 V) 164∧Below w.heap.size w wr) (fun i _=>(4 - intOf i).toNat)
        case atStart=>exact ⟨0,by omega,rfl,hR0,hR1,hQ6,hQ7,hb3w.trans (hb5.mono (by omega))⟩
        case round =>
          obtain ⟨k,hk4,rfl,hS0,hS1,hS6,hS7,hb6⟩:=hrel
          obtain ⟨va,vb,vc,vd,ve,vf,vg,vh⟩:=V
          by_cases h4 : k < 4
          · have b6 : p6 ≠ w.heap.size:=by omega
            have b7 : p7 ≠ w.heap.size:=by omega
            obtain rfl | rfl | rfl | rfl : k = 0 ∨ k = 1 ∨ k = 2 ∨ k = 3:=by omega
            all_goals
              have m0:=hS0.free (i:=0) (show (0 : Nat) < 8 by decide)
              have m1:=hS0.free (i:=1) (show (1 : Nat) < 8 by decide)
              have m2:=hS0.free (i:=2) (show (2 : Nat) < 8 by decide)
              have m3:=hS0.free (i:=3) (show (3 : Nat) < 8 by decide)
              have m4:=hS0.free (i:=4) (show (4 : Nat) < 8 by decide)
              have m5:=hS0.free (i:=5) (show (5 : Nat) < 8 by decide)
              have m6:=hS0.free (i:=6) (show (6 : Nat) < 8 by decide)
              have m7:=hS0.free (i:=7) (show (7 : Nat) < 8 by decide)
              have c0:=hS0.cell (i:=0) rfl
              have c1:=hS0.cell (i:=1) rfl
              have c2:=hS0.cell (i:=2) rfl
              have c3:=hS0.cell (i:=3) rfl
              have c4:=hS0.cell (i:=4) rfl
              have c5:=hS0.cell (i:=5) rfl
              have c6:=hS0.cell (i:=6) rfl
              have c7:=hS0.cell (i:=7) rfl
              have v0:=hS6.cell (i:=0) rfl
              have v1:=hS6.cell (i:=1) rfl
              have v2:=hS6.cell (i:=2) rfl
              have v3:=hS6.cell (i:=3) rfl
              have e0:=hS7.cell (i:=0) rfl
              have e1:=hS7.cell (i:=1) rfl
              have e2:=hS7.cell (i:=2) rfl
              have e3:=hS7.cell (i:=3) rfl
              simp only [ite_true,ite_false,Nat.lt_irrefl,Nat.reduceLT,Nat.not_lt_zero] at c0 c1 c2 c3 c4 c5 c6 c7
              go_wp2
              go_region
              go_wp2
              go_region
              go_wp2
            all_goals
              refine ⟨?_,by simp [intOf]⟩
              repeat apply Exists.intro
              refine ⟨⟨_ + 1,by omega,rfl,?_,?_,?_,?_,?_⟩,rfl⟩
            all_goals first
              | exact ((hS1.other _ _ (by omega)).other _ _ (by omega)).drew.drew
              | exact ((hS6.other _ _ b6).other _ _ b6).drew.drew
              | exact ((hS7.other _ _ b7).other _ _ b7).drew.drew
              | exact ((hb6.setCell (Nat.le_refl _) _).setCell (Nat.le_refl _) _).drew.drew
              | (rw [add32,add32];exact ((hS0.set _ _).set _ _).drew.drew)
          · obtain rfl : k = 4:=by omega
            have hm : mixS ⟨ha,hb',hc',hd,he,hf,hg',hh⟩ ⟨va,vb,vc,vd,ve,vf,vg,vh⟩ 4 = (Sha.compress ⟨ha,hb',hc',hd,he,hf,hg',hh⟩ b).words:=by
              unfold Sha.compress;rw [← HV.out];rfl
            rw [hm] at hS0
            clear hm
            go_wp2_with (first
              | ((with_reducible refine g_load (.tmp 2) ?_);refine ldAll aggW8 hS0 rfl rfl _ rfl rfl ?_)
              | ((with_reducible refine g_store (.tmp 4) ?_);refine stW infoW8 hS1 _ rfl (one_u32s _) rfl rfl rfl _ _ rfl rfl rfl ?_;intro wa hA0 hWa))
            exact bodyPost_ret (res_cell rfl aggW8 hA0 rfl _ rfl) rfl ⟨rfl,hWa.below hb6 (by omega)⟩
end Go.Proofs.YtmbldnahcmkpgaaGreatDoor
