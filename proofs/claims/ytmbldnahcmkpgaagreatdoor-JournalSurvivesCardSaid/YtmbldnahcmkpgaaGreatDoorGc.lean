/- hash.Stream: Begin, Add. (hash.Stream).Add: the stream of the longer message. (hash.Stream).Sum and hash.Sum return Sha.sum. hash.Sum returns Sha.sum. -/
import Derived.Test.YtmbldnahcmkpgaaGreatDoorHc
import Derived.Test.YtmbldnahcmkpgaaGreatDoorGb
import Derived.StillTailTactics
import Derived.Deep.DeepCutAuto
import Derived.Deep.RegionWith
set_option linter.unusedSimpArgs false
set_option linter.unusedVariables false
namespace Go.Proofs.YtmbldnahcmkpgaaGreatDoor
open Go.RowKit Go.U Go.L
theorem KTab.below {w w' : World} {g C : Nat} (h : KTab w g) (hb : Below C w w') (hC : w.heap.size ≤ C) : KTab w' g :=
  ⟨Nat.lt_of_lt_of_le h.1 hb.size,fun j u hu=>(hb.cell (p:=⟨g,j,none⟩) (Nat.lt_of_lt_of_le h.1 hC)).trans (h.2 j u hu)⟩
theorem KTab.below' {w w' : World} {g C : Nat} (h : KTab w g) (hb : Below C w w') (hg : g < C) : KTab w' g :=
  ⟨Nat.lt_of_lt_of_le h.1 hb.size,fun j u hu=>(hb.cell (p:=⟨g,j,none⟩) hg).trans (h.2 j u hu)⟩
def strm (s : Sha.St) (blk : List UInt8) (n : Nat) : List Value:=stv s ++ (u8s blk ++ [.int .u64 (n : Int)])
def IsS (cs : List Value) (m : List UInt8) : Prop :=
  ∃ blk : List UInt8,cs = strm (Sha.blocks m (m.length / 64)) blk m.length∧blk.length = 64∧Sha.Pre m.length m blk
theorem stv_length (s : Sha.St) : (stv s).length = 8:=rfl
theorem strm_length (s : Sha.St) (blk : List UInt8) (n : Nat) (h : blk.length = 64) : (strm s blk n).length = 73:=by simp [strm,stv_length,u8s_length,h]
theorem isS_length {cs : List Value} {m : List UInt8} (h : IsS cs m) : cs.length = 73:=by
  obtain ⟨blk,rfl,h1,_⟩:=h;exact strm_length _ _ _ h1
theorem one_strm (s : Sha.St) (blk : List UInt8) (n : Nat) : ∀ u ∈ strm s blk n,u.oneCell' = true:=by
  intro u hu
  simp only [strm,List.mem_append,List.mem_singleton] at hu
  rcases hu with h | h | rfl
  · exact one_u32s _ u h
  · exact one_u8s _ u h
  · rfl
theorem isS_begin : IsS (strm Sha.init (List.replicate 64 0) 0) []:=⟨List.replicate 64 0,rfl,by simp,by simp [Sha.Pre],by simp [Sha.Pre,Sha.full]⟩
theorem aggS : AggT Tryz.prog 145 73:=aggT_of (by kernel_rfl) (by kernel_rfl)
theorem infoS : (Tryz.prog.info? 145).map (·.size) = some 73:=by kernel_rfl
def zeroS : List Value:=strm ⟨0,0,0,0,0,0,0,0⟩ (List.replicate 64 0) 0
theorem zeroS_length : zeroS.length = 73:=rfl
theorem zvS (W : World) : (zeroValue 145).run Tryz.prog W = .ok (.agg zeroS.toArray) W:=by kernel_rfl
set_option maxRecDepth 100000 in
set_option maxHeartbeats 1000000 in
theorem begin_any (w : World) : Calls Tryz.prog 91 #[] w fun e w'=>e = .returned (.agg (strm Sha.init (List.replicate 64 0) 0).toArray)∧Below w.heap.size w w':=by
  have hz:=zvS
  go_enter Tryz.func91,Tryz.ntmps91
  go_wp2_with (first
    | (refine wpList_build rfl _ _ rfl (by kernel_rfl) ?_)
    | ((with_reducible refine g_store (.tmp 0) ?_);refine stW infoS (Blk.new w zeroS _) (strm Sha.init (List.replicate 64 0) 0) rfl (one_strm _ _ _) zeroS_length rfl rfl _ _ rfl rfl (by exact congrArg Value.agg (by kernel_rfl)) ?_;intro wa hA hW))
  go_goals
  exact bodyPost_ret (res_cell rfl aggS hA rfl _ rfl) rfl ⟨rfl,hW.below ((Below.refl _ _).alloc (Nat.le_refl _) _) (Nat.le_refl _)⟩
end Go.Proofs.YtmbldnahcmkpgaaGreatDoor
namespace Go.Proofs.YtmbldnahcmkpgaaGreatDoor
open Go.RowKit Go.U Go.L
def strLen : Value→Nat
  | .string s=>s.size
  | _=>0
theorem strm_72 (s : Sha.St) (blk : List UInt8) (n : Nat) (h : blk.length = 64) : (strm s blk n)[72]? = some (.int .u64 (n : Int)):=by
  unfold strm
  rw [List.getElem?_append_right (by rw [stv_length];omega),List.getElem?_append_right (by rw [stv_length,u8s_length,h];omega),stv_length,u8s_length,h];rfl
theorem slice64 (b o p : Nat) (hp : p < 64) (W : World) : (Instr.sliceAt 81 (.pointer (some ⟨b,o,none⟩)) (some (.int .i64 p)) none none).run Tryz.prog W = .ok (.slice (some ⟨b,o + p,none⟩) (64 - p) (64 - p)) W:=by
  have hu : Tryz.prog.arrayLen 81 = 64:=by kernel_rfl
  have hT : Tryz.prog.underlying 81 = some (.array (Tryz.prog.arrayLen 81) (Tryz.prog.elem 81)):=by kernel_rfl
  have hs : (sizeOf (Tryz.prog.elem 81)).run Tryz.prog W = .ok 1 W:=by kernel_rfl
  rw [run_sliceAt_array_l W _ _ hT .i64 (p : Int) (by omega) (by rw [hu];omega),hs,hu,Result.andThen_ok]
  simp only [slicedAt,Int.toNat_natCast]
  rw [if_neg (by omega),Nat.mul_one,add_lit]
theorem infoU8sz : (Tryz.prog.info? 5).map (·.size) = some 1:=by kernel_rfl
theorem splice_len (blk r : List UInt8) (p k : Nat) (hb : blk.length = 64) (h1 : k ≤ r.length) (h2 : p + k ≤ 64) : (blk.take p ++ r.take k ++ blk.drop (p + k)).length = 64:=by
  simp only [List.length_append,List.length_take,List.length_drop,hb];omega
theorem copy_facts (r : List UInt8) (p : Nat) (hr1 : 0 < r.length) (hp1 : p < 64) : ∃ k,k = Nat.min r.length (64 - p)∧k ≤ r.length∧p + k ≤ 64∧0 < k:=by
  refine ⟨_,rfl,Nat.min_le_left _ _,?_,Nat.lt_min.2 ⟨hr1,by omega⟩⟩
  have h:=Nat.min_le_right r.length (64 - p)
  have h2 : p + Nat.min r.length (64 - p) ≤ p + (64 - p):=Nat.add_le_add_left h p
  exact Nat.le_trans h2 (by omega)
theorem strm_splice (s : Sha.St) (blk r : List UInt8) (n p k : Nat) (hb : blk.length = 64) (h1 : k ≤ r.length) (h2 : p + k ≤ 64) :
    (strm s blk n).take (8 + p) ++ (r.take k).map (fun b=>Value.int .u8 b.toNat) ++ (strm s blk n).drop (8 + p + k) = strm s (blk.take p ++ r.take k ++ blk.drop (p + k)) n:=by
  have e1 : (strm s blk n).take (8 + p) = stv s ++ u8s (blk.take p):=by
    unfold strm
    rw [List.take_append,List.take_of_length_le (by rw [stv_length];omega),stv_length,Nat.add_sub_cancel_left,List.take_append,u8s_length,hb,show p - 64 = 0 by omega,List.take_zero,List.append_nil]
    unfold u8s;rw [List.map_take]
  have e2 : (strm s blk n).drop (8 + p + k) = u8s (blk.drop (p + k)) ++ [.int .u64 (n : Int)]:=by
    unfold strm
    rw [List.drop_append,List.drop_of_length_le (by rw [stv_length];omega),stv_length,List.nil_append,show 8 + p + k - 8 = p + k by omega,List.drop_append,u8s_length,hb,show p + k - 64 = 0 by omega,List.drop_zero]
    unfold u8s;rw [List.map_drop]
  rw [e1,e2]
  unfold strm u8s
  simp only [List.map_append,List.append_assoc]
theorem strm_bytes {w : World} {g t n : Nat} {s : Sha.St} {blk : List UInt8} (hb : Blk w g (strm s blk n) t) (hl : blk.length = 64) :
    ∀ j,j < 64→w.cell? ⟨g,8 + j,none⟩ = some (.int .u8 ((blk.getD j 0).toNat : Nat)):=by
  intro j hj
  refine hb.cell ?_
  unfold strm
  rw [List.getElem?_append_right (by rw [stv_length];omega),stv_length,Nat.add_sub_cancel_left,List.getElem?_append_left (by rw [u8s_length];omega)]
  unfold u8s
  have hj2 : j < blk.length:=by omega
  simp [hj2]
theorem strm_over (s s' : Sha.St) (blk : List UInt8) (n : Nat) : (strm s blk n).take 0 ++ stv s' ++ (strm s blk n).drop (0 + 8) = strm s' blk n:=by
  unfold strm
  rw [List.take_zero,List.nil_append,List.drop_append_of_le_length (by rw [stv_length];omega),List.drop_of_length_le (by rw [stv_length];omega),List.nil_append]
theorem isS_one {cs : List Value} {m : List UInt8} (h : IsS cs m) : ∀ u ∈ cs,u.oneCell' = true:=by
  obtain ⟨blk,rfl,_,_⟩:=h;exact one_strm _ _ _
theorem ext_drop (r : List UInt8) (k : Nat) : (⟨r.toArray⟩ : ByteArray).extract k r.length = ⟨(r.drop k).toArray⟩:=by
  apply ByteArray.ext
  simp
  rw [List.take_of_length_le (by simp)]
theorem len_take (m r : List UInt8) (n k : Nat) (hn : n = m.length) (hk : k ≤ r.length) : (m ++ r.take k).length = n + k:=by simp;omega
theorem strm_set (s : Sha.St) (blk : List UInt8) (n k : Nat) (h : blk.length = 64) : (strm s blk n).set 72 (.int .u64 ((n : Int) + k)) = strm s blk (n + k):=by
  unfold strm
  rw [List.set_append_right _ _ (by rw [stv_length];omega),List.set_append_right _ _ (by rw [stv_length,u8s_length,h];omega),stv_length,u8s_length,h]
  rfl
set_option maxRecDepth 100000 in
set_option maxHeartbeats 2000000 in
theorem add_any (cs : List Value) (m t : List UInt8) (w : World) (hs : IsS cs m) (hl : m.length + t.length ≤ 1099511627776) (hk : KTab w 2) :
    Calls Tryz.prog 92 #[.agg cs.toArray,.string ⟨t.toArray⟩] w fun e w'=>∃ c,e = .returned (.agg c.toArray)∧IsS c (m ++ t)∧Below w.heap.size w w':=by
  have hz:=zvS
  go_enter Tryz.func92,Tryz.ntmps92
  go_wp2
  go_loopw [1] (fun v wr=>∃ d r c,t = d ++ r∧v = .string ⟨r.toArray⟩∧IsS c (m ++ d)∧Blk wr w.heap.size c 145∧Blk wr (w.heap.size + 1) zeroS 145∧Below w.heap.size w wr) (fun v _=>strLen v)
  case atStart =>
    refine ⟨[],t,cs,rfl,rfl,by simpa using hs,(Blk.new _ cs _).alloc _,?_,((Below.refl _ _).alloc (Nat.le_refl _) _).alloc (by simp) _⟩
    have:=Blk.new (w.alloc (.cells cs.toArray 145)) zeroS 145
    simp only [World.size_alloc] at this
    exact this
  case round =>
    obtain ⟨d,r,c,hdr,rfl,hS,hB0,hB1,hb⟩:=hrel
    have HDR:=Lib.hid hdr
    have hll : d.length + r.length = t.length:=by rw [hdr];simp
    clear hdr
    by_cases hr : r = []
    · subst hr
      have hcl:=isS_length hS
      have HS:=Lib.hid hS
      have HCL:=Lib.hid hcl
      clear hS hcl
      go_wp2_with (first
        | ((with_reducible refine g_load (.tmp 2) ?_);refine ldAll aggS hB0 HCL.out rfl _ rfl rfl ?_)
        | ((with_reducible refine g_store (.tmp 4) ?_);refine stW infoS hB1 c HCL.out (isS_one HS.out) zeroS_length rfl rfl _ _ rfl rfl rfl ?_;intro wf hF hWf))
      refine bodyPost_ret (res_cell rfl aggS hF HCL.out _ rfl) rfl ⟨c,rfl,?_,hWf.below hb (by omega)⟩
      rw [HDR.out,List.append_nil];exact HS.out
    · have hr1 : 0 < r.length:=List.length_pos_iff.2 hr
      obtain ⟨blk,hc,hblk,hpre⟩:=hS
      obtain ⟨n,hn⟩ : ∃ n,n = (m ++ d).length:=⟨_,rfl⟩
      rw [← hn] at hc hpre
      have hn2 : n ≤ 1099511627776:=by rw [hn];simp;omega
      obtain ⟨p,hp⟩ : ∃ p,p = n % 64:=⟨_,rfl⟩
      have hp1 : p < 64:=by omega
      have hmod : ((n : Nat) : Int) % 64 = (p : Int):=by omega
      subst hc
      have c72 : wr.cell? ⟨w.heap.size,72,none⟩ = some (.int .u64 (n : Int)):=hB0.cell (strm_72 _ _ _ hblk)
      have HN:=Lib.hid hn
      have HP:=Lib.hid hp
      have HPRE:=Lib.hid hpre
      have HBLK:=Lib.hid hblk
      have HLL:=Lib.hid hll
      have hsl:=slice64 w.heap.size 8 p hp1
      have hre : r.isEmpty = false:=by cases r;exact absurd rfl hr;rfl
      clear hn hp hpre hblk hll hr
      have HF:=Lib.hid (copy_facts r p hr1 hp1)
      go_upto_region 7 with (first
        | ((with_reducible refine g_copy (.tmp 15) ?_);go_loud (refine copyStr (off:=8 + p) (dLen:=64 - p) u8sT infoU8sz hB0 r (by have:=strm_length (Sha.blocks (m ++ d) (n / 64)) blk n HBLK.out;omega) rfl _ _ rfl rfl rfl ?_;intro wa hA hW;obtain ⟨k,hkk,hk1,hk2,hk0⟩:=HF.out;rw [← hkk] at hA ⊢;rw [strm_splice _ _ _ _ _ _ HBLK.out hk1 hk2] at hA;have hbl:=splice_len blk r p k HBLK.out hk1 hk2;have a72 : wa.cell? ⟨w.heap.size,72,none⟩ = some (.int .u64 (n : Int)):=hA.cell (strm_72 _ _ _ hbl);have f72:=hA.free (i:=72) (by rw [strm_length _ _ _ hbl];decide);have HBL:=Lib.hid hbl;have HK:=Lib.hid hkk;clear hkk c72 hbl)))
      case roundEnd =>
        have hne : p + k ≠ 64:=by
          have h2 : ((p : Int) + k == 64) = false:=by assumption
          rw [beq_eq_false_iff_ne] at h2;omega
        obtain ⟨q1,q2,q3⟩:=Sha.piece_less (m ++ d) r blk n p k HN.out HP.out (by omega) hk1 HBLK.out HPRE.out
        have hS2:=hA.set 72 (.int .u64 ((n : Int) + k))
        rw [strm_set _ _ _ _ HBL.out] at hS2
        refine ⟨⟨d ++ r.take k,r.drop k,_,?_,?_,⟨_,?_,HBL.out,?_⟩,hS2,(hW.blk hB1 (by omega)).other _ _ (by omega),(hW.below hb (Nat.le_refl _)).setCell (Nat.le_refl _) _⟩,?_⟩
        · rw [HDR.out,List.append_assoc,List.take_append_drop]
        · rw [ext_drop]
        · rw [← List.append_assoc,len_take _ _ _ _ HN.out hk1,q2]
        · rw [← List.append_assoc,len_take _ _ _ _ HN.out hk1];exact q3
        · rw [ext_drop];simp [strLen,ByteArray.size];omega
      have heq : p + k = 64:=by
        have h : ((p : Int) + k == 64) = true:=by assumption
        rw [beq_iff_eq] at h;omega
      obtain ⟨q2,q3⟩:=Sha.piece_full (m ++ d) r blk n p k HN.out HP.out heq hk1 HBLK.out HPRE.out
      have Q2:=Lib.hid q2
      have Q3:=Lib.hid q3
      have HEQ:=Lib.hid heq
      clear q2 q3 heq
      have hS2:=hA.set 72 (.int .u64 ((n : Int) + k))
      rw [strm_set _ _ _ _ HBL.out] at hS2
      have hS1:=(hW.blk hB1 (by omega)).other 72 (.int .u64 ((n : Int) + k)) (h:=w.heap.size) (by omega)
      have hSb:=(hW.below hb (Nat.le_refl _)).setCell (p:=⟨w.heap.size,72,none⟩) (Nat.le_refl _) (.int .u64 ((n : Int) + k))
      generalize wa.setCell ⟨w.heap.size,72,none⟩ (.int .u64 ((n : Int) + k)) = wb at *
      generalize Sha.blocks (m ++ d) (n / 64) = st at *
      generalize hblk' : blk.take p ++ r.take k ++ blk.drop (p + k) = blk' at *
      clear hblk'
      obtain ⟨s0,s1,s2,s3,s4,s5,s6,s7⟩:=st
      have c0 : wb.cell? ⟨w.heap.size,0,none⟩ = some (.int .u32 s0.toNat):=hS2.cell rfl
      have c1 : wb.cell? ⟨w.heap.size,1,none⟩ = some (.int .u32 s1.toNat):=hS2.cell rfl
      have c2 : wb.cell? ⟨w.heap.size,2,none⟩ = some (.int .u32 s2.toNat):=hS2.cell rfl
      have c3 : wb.cell? ⟨w.heap.size,3,none⟩ = some (.int .u32 s3.toNat):=hS2.cell rfl
      have c4 : wb.cell? ⟨w.heap.size,4,none⟩ = some (.int .u32 s4.toNat):=hS2.cell rfl
      have c5 : wb.cell? ⟨w.heap.size,5,none⟩ = some (.int .u32 s5.toNat):=hS2.cell rfl
      have c6 : wb.cell? ⟨w.heap.size,6,none⟩ = some (.int .u32 s6.toNat):=hS2.cell rfl
      have c7 : wb.cell? ⟨w.heap.size,7,none⟩ = some (.int .u32 s7.toNat):=hS2.cell rfl
      clear hA hW a72 f72 hB0 hB1
      have hltb : w.heap.size < wb.heap.size:=hS2.lt
      refine wp_region_still_tail 4 (by kernel_rfl) (by kernel_rfl) ?_
      simp only [List.take_succ_cons,List.take_zero,List.drop_succ_cons,List.drop_zero]
      change wpStill _ _ (World.drew _) _ _ _
      repeat still_step
      refine wpStill_nil ?_
      change wpList _ _ _ _ _ (World.drew _)
      have hD2:=hS2.drew
      have hD1:=hS1.drew
      have hDb:=hSb.drew
      clear hS2 hS1 hSb c0 c1 c2 c3 c4 c5 c6 c7
      generalize wb.drew = wd at *
      go_wp2_with (first
        | (go_at_call 101;refine (compress_any ⟨s0,s1,s2,s3,s4,s5,s6,s7⟩ blk' w.heap.size 8 64 wd HBL.out (by omega) hD2.lt (strm_bytes hD2 HBL.out) (KTab.below' hk hDb hk.1)).mono ?_;rintro e we ⟨rfl,hbe⟩)
        | ((with_reducible refine g_store (.tmp 36) ?_);go_loud (refine stAtW infoW8 (hD2.below hbe hD2.lt) (stv (Sha.compress ⟨s0,s1,s2,s3,s4,s5,s6,s7⟩ blk')) (stv_length _) (one_u32s _) (by rw [strm_length _ _ _ HBL.out];omega) rfl rfl _ _ rfl rfl rfl ?_;intro wf hF hWf)))
      rw [strm_over] at hF
      have hwd:=hbe.size
      refine ⟨⟨d ++ r.take k,r.drop k,_,?_,?_,⟨_,?_,HBL.out,?_⟩,hF,hWf.blk (hD1.below hbe hD1.lt) (by omega),hWf.below (hDb.trans (hbe.mono (Nat.le_of_lt hD2.lt))) (Nat.le_refl _)⟩,?_⟩
      · rw [HDR.out,List.append_assoc,List.take_append_drop]
      · rw [ext_drop]
      · rw [← List.append_assoc,len_take _ _ _ _ HN.out hk1,Q2.out]
      · rw [← List.append_assoc,len_take _ _ _ _ HN.out hk1];exact Q3.out
      · rw [ext_drop];simp [strLen,ByteArray.size];omega
end Go.Proofs.YtmbldnahcmkpgaaGreatDoor
namespace Go.Proofs.YtmbldnahcmkpgaaGreatDoor
open Go.RowKit Go.U Go.L
def sliceLen : Value→Nat
  | .slice _ n _=>n
  | _=>0
theorem own_len {w : World} {B e size n : Nat} {v : Value} {xs : List Value} (h : w.ownsRow B e size v n xs) : sliceLen v = n:=by
  obtain ⟨a,cap,rfl,_⟩:=own_form h;rfl
theorem aggB32 : AggT Tryz.prog 122 32:=aggT_of (by kernel_rfl) (by kernel_rfl)
theorem infoB32 : (Tryz.prog.info? 122).map (·.size) = some 32:=by kernel_rfl
def arr32 (l : List UInt8) : List Value:=u8s (l ++ List.replicate (32 - l.length) 0)
theorem arr32_length (l : List UInt8) (h : l.length ≤ 32) : (arr32 l).length = 32:=by simp [arr32,u8s];omega
theorem arr32_snoc (l : List UInt8) (x : UInt8) (h : l.length < 32) : (arr32 l).set l.length (.int .u8 x.toNat) = arr32 (l ++ [x]):=by
  unfold arr32 u8s
  obtain ⟨n,hn⟩ : ∃ n,32 - l.length = n + 1:=⟨32 - l.length - 1,by omega⟩
  have e : 32 - (l ++ [x]).length = n:=by simp;omega
  rw [hn,e,List.map_append,List.map_append,List.map_append]
  rw [List.set_append_right _ _ (by simp),List.length_map,Nat.sub_self,List.replicate_succ]
  simp
theorem arr32_zero (l : List UInt8) (h : l.length < 32) : (arr32 l)[l.length]? = some (.int .u8 0):=by
  unfold arr32 u8s
  rw [List.map_append,List.getElem?_append_right (by simp),List.length_map,Nat.sub_self]
  obtain ⟨n,hn⟩ : ∃ n,32 - l.length = n + 1:=⟨32 - l.length - 1,by omega⟩
  rw [hn];rfl
theorem arr32_full (l : List UInt8) (h : l.length = 32) : arr32 l = u8s l:=by simp [arr32,h]
theorem one_arr32 (l : List UInt8) : ∀ u ∈ arr32 l,u.oneCell' = true:=one_u8s _
theorem zv32 (W : World) : (zeroValue 122).run Tryz.prog W = .ok (.agg (arr32 []).toArray) W:=by kernel_rfl
theorem be64_take (N k : Nat) (hk : k < 8) : (Sha.be64 N).take (k + 1) = (Sha.be64 N).take k ++ [UInt8.ofNat (N / 2 ^ (56 - 8 * k))]:=by
  rw [List.take_add_one]
  congr 1
  simp [Sha.be64,hk]
theorem be_byte (n j : Nat) : (8 * (n : Int)) / 2 ^ j % 256 = ((UInt8.ofNat (8 * n / 2 ^ j)).toNat : Int):=by
  have e : (8 * (n : Int)) / 2 ^ j = ((8 * n / 2 ^ j : Nat) : Int):=by
    rw [Int.natCast_ediv,Int.natCast_pow];rfl
  rw [e,UInt8.toNat_ofNat'];rfl
theorem strm_word (s : Sha.St) (blk : List UInt8) (n q : Nat) (h : q < 8) : (strm s blk n)[q]? = some (.int .u32 ((s.words.getD q 0).toNat : Nat)):=by
  unfold strm stv
  have hl : s.words.length = 8:=rfl
  rw [List.getElem?_append_left (by show q < _;simp [u32s,hl];omega)]
  exact u32s_at _ q (by omega)
theorem out_byte (x : UInt32) (j : Nat) : (x.toNat : Int) / 2 ^ j % 256 = ((UInt8.ofNat (x.toNat / 2 ^ j)).toNat : Int):=by
  have e : (x.toNat : Int) / 2 ^ j = ((x.toNat / 2 ^ j : Nat) : Int):=by
    rw [Int.natCast_ediv,Int.natCast_pow];rfl
  rw [e,UInt8.toNat_ofNat'];rfl
theorem isS_72 {cs : List Value} {m : List UInt8} (h : IsS cs m) : cs[72]? = some (.int .u64 (m.length : Int)):=by
  obtain ⟨blk,rfl,h1,_⟩:=h;exact strm_72 _ _ _ h1
set_option maxRecDepth 100000 in
set_option maxHeartbeats 2000000 in
theorem ssum_any (cs : List Value) (m : List UInt8) (w : World) (hs : IsS cs m) (hl : m.length ≤ 1099511627000) (hk : KTab w 2) :
    Calls Tryz.prog 93 #[.agg cs.toArray] w fun e w'=>e = .returned (.agg (u8s (Sha.sum m)).toArray)∧Below w.heap.size w w':=by
  have hz:=zv32
  go_enter Tryz.func93,Tryz.ntmps93
  go_upto_region 1 with fail
  have hB0 : Blk ((w.alloc (.cells cs.toArray 145)).alloc (.cells (arr32 []).toArray 122)) w.heap.size cs 145:=(Blk.new _ _ _).alloc _
  have hB1:=Blk.new (w.alloc (.cells cs.toArray 145)) (arr32 []) 122
  simp only [World.size_alloc] at hB1
  have hb1 : Below w.heap.size w ((w.alloc (.cells cs.toArray 145)).alloc (.cells (arr32 []).toArray 122)):=((Below.refl _ _).alloc (Nat.le_refl _) _).alloc (by simp) _
  generalize (w.alloc (.cells cs.toArray 145)).alloc (.cells (arr32 []).toArray 122) = w1 at *
  obtain ⟨n,hn⟩ : ∃ n,n = m.length:=⟨_,rfl⟩
  have c72:=isS_72 hs
  rw [← hn] at hl c72
  have HN:=Lib.hid hn
  clear hn
  have f72 : w1.cell? ⟨w.heap.size,72,none⟩ = some (.int .u64 (n : Int)):=hB0.cell c72
  clear c72
  go_wp2
  go_loopw [4] (fun v wr=>∃ z,z ≤ Sha.zeros n∧wr.ownsRow w1.heap.size 5 1 v (1 + z) (u8s (128::List.replicate z 0))∧Below w1.heap.size w1 wr) (fun v _=>200 - sliceLen v)
  case atStart=>exact ⟨0,Nat.zero_le _,⟨rfl,.inr ⟨_,_,_,rfl,Nat.le_refl _,heap_alloc_new w1 _,Nat.le_refl _,by unfold maxLen;omega,rfl,rfl⟩⟩,(Below.refl _ _).alloc (Nat.le_refl _) _⟩
  case round =>
    obtain ⟨z,hzz,hown,hb2⟩:=hrel
    have hz63 : Sha.zeros n ≤ 63:=by unfold Sha.zeros;omega
    obtain ⟨ad,cap,rfl,hc1,hc2⟩:=own_form hown
    have hb2s:=hb2.size
    have d72 : wr.cell? ⟨w.heap.size,72,none⟩ = some (.int .u64 (n : Int)):=(hb2.cell (p:=⟨w.heap.size,72,none⟩) hB0.lt).trans f72
    obtain ⟨q,hq⟩ : ∃ q,q = (n + (1 + z)) % 64:=⟨_,rfl⟩
    have hq1 : ((n : Int) + (1 + z)) % 64 = (q : Int):=by omega
    by_cases hlt : z < Sha.zeros n
    · have hne : ((q : Int) != 56) = true:=by
        rw [bne_iff_ne];unfold Sha.zeros at hlt;omega
      have hz3 : z ≤ 63:=by omega
      have HQ:=Lib.hid hq
      have HLT:=Lib.hid hlt
      clear hq hlt hzz
      go_wp2_with (at_builtin;refine app1 infoU8 hown hb2 hb2s (by omega) (by unfold maxLen;omega) rfl _ _ rfl rfl rfl rfl (one1 _ _) ?_;intro v' w2 hown2 hb3)
      have hlen:=own_len hown2
      refine ⟨⟨z + 1,HLT.out,?_,hb3⟩,by rw [hlen];simp only [sliceLen];have:=HLT.out;omega⟩
      rw [List.replicate_succ',← List.cons_append]
      exact snoc_own hown2 rfl (by omega)
    · obtain rfl : z = Sha.zeros n:=by omega
      have hne : ((q : Int) != 56) = false:=by
        rw [bne_eq_false_iff_eq];unfold Sha.zeros at hq;omega
      clear hq hlt hzz
      generalize hzq : Sha.zeros n = z at *
      have HZ:=Lib.hid hzq
      clear hzq
      obtain ⟨wo,rfl⟩ : ∃ wo : World,wo = wr:=⟨_,rfl⟩
      go_wp2
      simp only [hq1]
      clear hq1 hne
      go_loopw [4,23] (fun v i wr=>∃ k,k ≤ 8∧i = .int .i64 (k : Nat)∧wr.ownsRow w1.heap.size 5 1 v (1 + z + k) (u8s (128::(List.replicate z 0 ++ (Sha.be64 (8 * n)).take k)))∧Below w1.heap.size w1 wr) (fun _ i _=>(8 - intOf i).toNat)
      case atStart=>exact ⟨0,by omega,rfl,by rw [List.take_zero,List.append_nil];exact hown,hb2⟩
      case round =>
        obtain ⟨k,hk8,rfl,hown2,hb3⟩:=hrel
        have hb3s:=hb3.size
        by_cases hlt : k < 8
        · have e0 : (0 : Int) ≤ 56 - 8 * k:=by omega
          have e1 : (56 : Int) - 8 * k < 64:=by omega
          go_wp2_with (at_builtin;refine app1 infoU8 hown2 hb3 hb3s (by omega) (by unfold maxLen;omega) rfl _ _ rfl rfl rfl rfl (one1 _ _) ?_;intro v' w2 hown3 hb4)
          refine ⟨⟨k + 1,by omega,by go_num,?_,hb4⟩,by simp [intOf];omega⟩
          rw [be64_take _ k hlt,← List.append_assoc,← List.cons_append]
          exact snoc_own hown3 (by rw [be_byte]) (by omega)
        · obtain rfl : k = 8:=by omega
          have hpad : (128::(List.replicate z 0 ++ (Sha.be64 (8 * n)).take 8)) = Sha.pad n:=by
            rw [← HZ.out];rfl
          rw [hpad] at hown2
          have hpl : (Sha.pad n).length = 1 + z + 8:=by rw [← hpad];simp [Sha.be64];omega
          have HPL:=Lib.hid hpl
          clear hpad hpl
          have hC0:=hB0.below hb3 hB0.lt
          have hC1:=hB1.below hb3 hB1.lt
          have hb3w:=hb1.trans (hb3.mono hb1.size)
          obtain ⟨wp,rfl⟩ : ∃ wp : World,wp = wr:=⟨_,rfl⟩
          have HS:=Lib.hid hs
          clear hs hk8 hlt d72 f72 hb2 hown
          go_upto_region 12 with (first
            | ((with_reducible refine g_load (.tmp 1) ?_);refine ldAll aggS hC0 (isS_length HS.out) rfl _ rfl rfl ?_)
            | ((with_reducible refine g_conv (.tmp 37) ?_);refine convStr u8sT u8T strT (Sha.pad n) (own_rd hown2 (by decide)) HPL.out.symm rfl _ rfl rfl ?_)
            | (go_at_call 92;refine (add_any cs m (Sha.pad n) _ HS.out (by rw [← HN.out,HPL.out];omega) (KTab.below' hk hb3w hk.1)).mono ?_;rintro e wq ⟨c2,rfl,hS2,hbq⟩)
            | ((with_reducible refine g_store (.tmp 1) ?_);refine stW infoS (hC0.below hbq hC0.lt) c2 (isS_length hS2) (isS_one hS2) (isS_length HS.out) rfl rfl _ _ rfl rfl rfl ?_;intro wt hT hWt))
          have hT1:=hWt.blk (hC1.below hbq hC1.lt) (by omega)
          have hwpq:=hbq.size
          have hbt:=hWt.below (hb3w.trans (hbq.mono (Nat.le_of_lt hC0.lt))) (Nat.le_refl _)
          have hT6:=Blk.new wt (arr32 []) 122
          have hT0:=hT.alloc (.cells (arr32 []).toArray 122)
          have hT1:=hT1.alloc (.cells (arr32 []).toArray 122)
          have hbt:=hbt.alloc (Nat.le_of_lt hT.lt) (.cells (arr32 []).toArray 122)
          have hlt0:=hT.lt
          have hlt1:=(hWt.blk (hC1.below hbq hC1.lt) (by omega)).lt
          have hm0 : m ++ Sha.pad n = Sha.padded m:=by rw [HN.out];rfl
          rw [hm0] at hS2
          obtain ⟨blk2,rfl,hbl2,hpre2⟩:=hS2
          clear hpre2
          generalize hSS : Sha.blocks (Sha.padded m) ((Sha.padded m).length / 64) = S at *
          have HSS:=Lib.hid hSS
          have HBL2:=Lib.hid hbl2
          clear hSS hbl2 hm0
          generalize wt.heap.size = g6 at *
          generalize wt.alloc (.cells (arr32 []).toArray 122) = w6 at *
          go_wp2
          go_loopw [40] (fun i wr=>∃ k,k ≤ 32∧i = .int .i64 (k : Nat)∧Blk wr g6 (arr32 ((Sha.sum m).take k)) 122∧Blk wr w.heap.size (strm S blk2 (Sha.padded m).length) 145∧Blk wr (w.heap.size + 1) (arr32 []) 122∧Below w.heap.size w wr) (fun i _=>(32 - intOf i).toNat)
          case atStart=>exact ⟨0,by omega,rfl,hT6,hT0,hT1,hbt⟩
          case round =>
            obtain ⟨k,hk32,rfl,hD6,hD0,hD1,hbd⟩:=hrel
            have hsl : ((Sha.sum m).take k).length = k:=by rw [List.length_take,Sha.sum_length];omega
            by_cases hlt : k < 32
            · have ht:=Sha.sum_take m k hlt
              rw [HSS.out] at ht
              obtain ⟨q,hq⟩ : ∃ q,q = k / 4:=⟨_,rfl⟩
              obtain ⟨r,hr⟩ : ∃ r,r = k % 4:=⟨_,rfl⟩
              rw [← hq,← hr] at ht
              have hq1 : (k : Int) / 4 = (q : Int):=by omega
              have hr1 : (k : Int) % 4 = (r : Int):=by omega
              have hq8 : q < 8:=by omega
              have hr4 : r < 4:=by omega
              have hx : wr.cell? ⟨w.heap.size,q,none⟩ = some (.int .u32 ((S.words.getD q 0).toNat : Nat)):=hD0.cell (strm_word _ _ _ _ hq8)
              have hz0 : wr.cell? ⟨g6,k,none⟩ = some (.int .u8 0):=hD6.cell (by have:=arr32_zero ((Sha.sum m).take k) (by omega);rwa [hsl] at this)
              have hf:=hD6.free (i:=k) (by rw [arr32_length _ (by rw [List.length_take];omega)];omega)
              have hu:=arr32_snoc ((Sha.sum m).take k) (UInt8.ofNat ((S.words.getD q 0).toNat / 2 ^ (24 - 8 * r))) (by omega)
              rw [hsl,← ht] at hu
              have e0 : (0 : Int) ≤ 24 - 8 * r:=by omega
              have e1 : (24 : Int) - 8 * r < 32:=by omega
              have HU:=Lib.hid hu
              have HSL:=Lib.hid hsl
              generalize S.words.getD q 0 = x at *
              clear hq hr ht hu hsl
              go_wp2
              refine ⟨⟨k + 1,by omega,by go_num,?_,hD0.other _ _ (by omega),hD1.other _ _ (by omega),hbd.setCell (by show _ ≤ g6;omega) _⟩,by simp [intOf];omega⟩
              have h5:=hD6.set k (.int .u8 ((UInt8.ofNat (x.toNat / 2 ^ (24 - 8 * r))).toNat : Nat))
              rw [HU.out] at h5
              rw [out_byte]
              exact h5
            · obtain rfl : k = 32:=by omega
              rw [List.take_of_length_le (by rw [Sha.sum_length];omega)] at hD6
              go_wp2_with (first
                | ((with_reducible refine g_load (.tmp 6) ?_);refine ldAll aggB32 hD6 (arr32_length _ (by rw [Sha.sum_length];omega)) rfl _ rfl rfl ?_)
                | ((with_reducible refine g_store (.tmp 2) ?_);refine stW infoB32 hD1 _ (arr32_length _ (by rw [Sha.sum_length];omega)) (one_arr32 _) (arr32_length _ (by simp)) rfl rfl _ _ rfl rfl rfl ?_;intro wz hZ hWz))
              refine bodyPost_ret (res_cell rfl aggB32 hZ (arr32_length _ (by rw [Sha.sum_length];omega)) _ rfl) rfl ⟨?_,hWz.below hbd (by omega)⟩
              rw [arr32_full _ (Sha.sum_length m)]
end Go.Proofs.YtmbldnahcmkpgaaGreatDoor
namespace Go.Proofs.YtmbldnahcmkpgaaGreatDoor
open Go.RowKit Go.U Go.L
theorem st_run {w : World} {g t : Nat} {cs : List Value} (hb : Blk w g cs t) (vs : List Value) (hl : vs.length = cs.length) (h1 : ∀ u ∈ vs,u.oneCell' = true) :
    (storeCells ⟨g,0,none⟩ vs).run Tryz.prog w = .ok () (w.setRow g vs.toArray):=by
  have hst:=run_storeBlk Tryz.prog g 0 t vs 0 cs w hb (by omega) h1
  have e : cs.drop vs.length = []:=List.drop_of_length_le (by omega)
  simpa [e] using hst
def emptyS : List Value:=strm Sha.init (List.replicate 64 0) 0
theorem isS_empty : IsS emptyS []:=isS_begin
theorem begin_any' (w : World) : Calls Tryz.prog 91 #[] w fun e w'=>e = .returned (.agg emptyS.toArray)∧Below w.heap.size w w':=begin_any w
set_option maxRecDepth 100000 in
set_option maxHeartbeats 1000000 in
theorem sum_any (v : Value) (m : List UInt8) (w : World) (C : Nat) (hr : Rd w C v m.length (u8s m)) (hC : C ≤ w.heap.size) (hl : m.length ≤ 1099511627000) (hk : KTab w 2) :
    Calls Tryz.prog 74 #[v] w fun e w'=>e = .returned (.agg (u8s (Sha.sum m)).toArray)∧Below w.heap.size w w':=by
  have hz:=zv32
  go_enter Tryz.func74,Tryz.ntmps74
  go_upto_region 1 with fail
  have hB0:=Blk.new w (arr32 []) 122
  have hb0 : Below w.heap.size w (w.alloc (.cells (arr32 []).toArray 122)):=(Below.refl _ _).alloc (Nat.le_refl _) _
  have hlt : w.heap.size < (w.alloc (.cells (arr32 []).toArray 122)).heap.size:=by simp
  generalize w.alloc (.cells (arr32 []).toArray 122) = w1 at *
  have hk1:=KTab.below' hk hb0 hk.1
  have hr1:=hr.below hb0 hC
  have hconv : ∀ W,Rd W C v m.length (u8s m)→(convert 77 9 v).run Tryz.prog W = .ok (.string ⟨m.toArray⟩) W:=fun W h=>conv_string u8sT u8T strT h
  have HCV:=Lib.hid hconv
  clear hconv
  have hr1d : Rd w1.drew C v m.length (u8s m):=hr1
  have hk1d : KTab w1.drew 2:=hk1
  have hB0d : Blk w1.drew w.heap.size (arr32 []) 122:=hB0
  have hltd : w.heap.size < w1.drew.heap.size:=hlt
  have hcv1:=HCV.out w1.drew hr1d
  have hCd : C ≤ w1.drew.heap.size:=Nat.le_trans hC (Nat.le_of_lt hlt)
  go_region_with (first
    | (go_at_call 91;refine (begin_any' w1.drew).mono ?_;rintro e w2 ⟨rfl,hb2⟩;have hcv:=HCV.out w2 (hr1d.below hb2 hCd))
    | (go_at_call 92;refine (add_any emptyS [] m w2 isS_empty (by simp;omega) (hk1d.below hb2 (Nat.le_refl _))).mono ?_;rintro e w3 ⟨c3,rfl,hS3,hb3⟩)
    | (go_at_call 93;refine (ssum_any c3 m w3 hS3 (by omega) ((hk1d.below hb2 (Nat.le_refl _)).below hb3 (Nat.le_refl _))).mono ?_;rintro e w4 ⟨rfl,hb4⟩;have hB4:=((hB0d.below hb2 hltd).below hb3 (Nat.lt_of_lt_of_le hltd hb2.size)).below hb4 (Nat.lt_of_lt_of_le (Nat.lt_of_lt_of_le hltd hb2.size) hb3.size);have hbb:=hb0.drew.trans ((hb2.mono (Nat.le_of_lt hltd)).trans ((hb3.mono (Nat.le_trans (Nat.le_of_lt hltd) hb2.size)).trans (hb4.mono (Nat.le_trans (Nat.le_trans (Nat.le_of_lt hltd) hb2.size) hb3.size))));have hst:=st_run hB4 (u8s (Sha.sum m)) (by rw [u8s_length];rfl) (one_u8s _)))
  all_goals go_wp2
  all_goals exact bodyPost_ret (res_cell rfl aggB32 (hB4.row _ (by rw [u8s_length];rfl)) (by rw [u8s_length];rfl) _ rfl) rfl ⟨rfl,below_row hbb (Nat.le_refl _) _⟩
end Go.Proofs.YtmbldnahcmkpgaaGreatDoor
